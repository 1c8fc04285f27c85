/- Parts of the proof. -/
import Derived.Test.YtcjagpfbhnmggaaGreatDoorBd7
import Derived.Laws.Externs
import Derived.Lib.ConvBytes
import Derived.Laws.IdiomStrings
namespace Go.Proofs.YtcjagpfbhnmggaaGreatDoor
namespace Sym
open Go.RowKit
section
variable {cod:Nat→aO} {P:Program} {env:Env} {N:Nat}
theorem e8 {α β γ:Type} {R:β→γ→Prop} {f:α→β} {g:α→γ}:∀{l:List α},(∀a∈l,R (f a) (g a))→F2 R (l.map f) (l.map g)
 | [],_=>.nil
 | a::_,h=>.cons (h a (List.mem_cons_self ..)) (e8 fun b hb=>h b (List.mem_cons_of_mem _ hb))
theorem qG {α β:Type} (a:Array α) (f:α→β):a.map f=(a.toList.map f).toArray:=by
 apply Array.ext';simp
theorem qL:∀{l:List SV} {vs:List Value} {dC:List (Nat×Nat×Nat)},xu l=some dC→F2 (aS env N) l vs→vs=dC.map (fun c=>Value.pointer (some ((env c.1).addr c.2.1 c.2.2)))∧∀c∈dC,c.1 < N
 | [],_,_,h,hv=>by
   cases hv;simp only [xu,Option.some.injEq] at h;subst h
   exact ⟨rfl,by simp⟩
 | x::l,_,dC,h,hv=>by
   cases hv with
   | @cons _ u _ us hx iP=>
     unfold xu at h;split at h
     ·rename_i e;cases e
     ·rename_i k i o l' e;simp only [List.cons.injEq] at e;obtain ⟨rfl,rfl⟩:=e;obtain ⟨cs,hc,rfl⟩:=Option.map_eq_some_iff.1 h;obtain ⟨h1,h2⟩:=qL hc iP;obtain ⟨hl,rfl⟩:=hx;refine ⟨by rw [h1];rfl,fun c mA=>?_⟩;rcases List.mem_cons.1 mA with rfl | mA
      ·exact hl
      ·exact h2 c mA
     ·cases h
theorem Jn {c:aO} (_:c.size=1) (qo:∀n:Int,c.ok [.int .u8 n]=true) (bs:List UInt8):aN c (bs.map fun b=>c.dec [.int .u8 (b.toNat:Int)])=bs.map fun b=>Value.int .u8 (b.toNat:Int):=by
 unfold aN
 induction bs with
 | nil=>rfl
 | cons b bs ih=>
   simp only [List.map_cons,List.flatMap_cons,List.map_append] at ih ⊢;rw [ih,c.ck _ (qo _)];rfl
theorem AD (cfg:aT cod) {H:Heap cod} {w:World} {M:Nat→Prop} {s d:TypeId} {x:SV} {v:Value} {out:Out cod} (hk:eD cfg.P s d=1) (h:(rZ cfg H d x).ah out) (G:Good env H w M) (_:∀k,w.heap.size≤k→M k) (hx:aS env H.length x v):
 ∃v' w',(convert s d v).run cfg.P w= .ok v' w'∧fw env H w M out v' w':=by
 unfold rZ at h;split at h
 ·rename_i e bs hd;split at h
  ·rename_i u he hu;split at h
   ·rename_i kt;rw [T.ak,gh,T.ad] at h;obtain ⟨⟨qo,hlen⟩,rfl⟩:=h
    have hs:∃u0,cfg.P.underlying s=some u0:=by
     unfold eD at hk;split at hk
     ·exact ⟨_,by assumption⟩
     ·cases hk
     ·cases hk
     ·cases hk
    obtain ⟨u0,hs⟩:=hs;have hv:v= .string ⟨bs.toArray⟩:=hx;subst hv;have UA:=Jn kt qo bs;have Nn:(⟨bs.toArray⟩:ByteArray).size=bs.length:=by simp [ByteArray.size]
    have acm:=grownCap_ge w bs.length 0 e;have mA:=grownCap_le_maxLen w bs.length 0 e (by unfold maxLen;omega);refine ⟨_,_,Lib.run_convert_string_bytes w s d e _ hs hd he,?_⟩;have aci:gR M w (Lib.bytesWorld w e ⟨bs.toArray⟩):=⟨rfl,rfl,rfl,by rw [Lib.bytesWorld_size];omega,fun k hk _=>Lib.bytesWorld_at_old w e _ k hk,re (cg _ _ _ _ _ (Lib.run_convert_string_bytes w s d e _ hs hd he))⟩;refine eT (hv:=⟨w.heap.size,0,1,.tuple #[],[]⟩) (G.push _ _ (by rw [Lib.bytesWorld_size];omega) (fun k hk=>Lib.bytesWorld_at_old w e _ k hk) ⟨kt.symm,fun j q hq=>?_,fun _=>by rw [Lib.bytesWorld_size];exact Nat.lt_succ_self _⟩ (fun b hb=>?_)) ?_ aci
    ·rw [UA] at hq
     have hj:j < bs.length:=by
      have:=(List.getElem?_eq_some_iff.1 hq).1;simpa using this
     have:=Lib.bytesWorld_cell w e ⟨bs.toArray⟩ j (by rw [Nn];exact hj);rw [List.getElem?_map,List.getElem?_eq_getElem hj] at hq;simp only [Option.map_some,Option.some.injEq] at hq;rw [Nat.zero_add,this,←hq];simp [List.getD,List.getElem?_eq_getElem hj]
    ·simp only [av.has] at hb;omega
    ·exact ⟨Nat.lt_succ_self _,some ⟨w.heap.size,0,none⟩,grownCap w bs.length 0 e,by rw [Nn],acm,mA,(fun h=>by cases h),fun _=>by rw [Env.aU];simp [HV.addr]⟩
   ·exact h.elim
  ·exact h.elim
 ·exact h.elim
theorem Dh {name:String} {e:Array Value→Sem Value} (h1:Extern.allNextRows.lookup name=none) (h2:Extern.allNextRows.lookup "" =none) (h3:∀ps rs ts,((Extern.allGenericRows.lookup name).map (fun f=>f ts ps rs) <|> (Extern.allTypedRows.lookup name).map (fun f=>f ps rs) <|> Extern.allRows.lookup name)=some e) {fn:Func} (hn:fn.name=name) (ho:fn.origin= ""):
 Extern.findNext fn=none∧Extern.find fn=some e:=by
 constructor
 ·unfold Extern.findNext;simp only [hn,ho,h1,h2,Option.map_none];rfl
 ·unfold Extern.find;simp only [hn];rw [h3];rfl
theorem O3 {P:Program} {g:FuncId} {as:List SV} {r:SV} {vs:List Value} {N:Nat} (hx:jY P g=true) (h:(TN P g as).ah r) (ha:F2 (aS env N) as vs):
 ∃gU,(∀w,(callFunc g vs.toArray).run P w= .ok (.value gU) w)∧aS env N r gU:=by
 unfold jY at hx;unfold TN at h;split at hx
 ·rename_i fn hf;simp only [hf] at h;simp only [Bool.and_eq_true,Bool.or_eq_true,beq_iff_eq] at hx;obtain ⟨eG,ho,hn⟩:=hx;have hng:(fn.name== "runtime.NumGoroutine")=false:=by rcases hn with hn | hn | hn<;>rw [hn]<;>decide
  split at h
  ·rename_i Kf;split at h
   ·rename_i b;rw [T.ad] at h;subst h;obtain ⟨r1,r2⟩:=Dh (name:= "math.Float64bits") (e:=Extern.MathFloatBits.float64bits) (by kernel_rfl) (by kernel_rfl) (fun _ _ _=>by kernel_rfl) Kf ho
    cases ha with
    | @cons _ v0 _ vs hx iP=>
      cases iP;have hv:v0= .float .f64 b:=hx;subst hv;refine ⟨.int .u64 b,fun w=>?_,rfl⟩;rw [run_callFunc_extern hf hng eG r1 r2];rfl
   ·exact h.elim
  ·rename_i Kf;split at h
   ·rename_i hnf;split at h
    ·rename_i b;rw [T.ak,T.ad] at h;obtain ⟨hb,rfl⟩:=h;obtain ⟨r1,r2⟩:=Dh (name:= "math.archFloor") (e:=Extern.MathFloor.toIntegral "math.archFloor" .down) (by kernel_rfl) (by kernel_rfl) (fun _ _ _=>by kernel_rfl) hnf ho
     cases ha with
     | @cons _ v0 _ vs hx iP=>
       cases iP;have hv:v0= .float .f64 b:=hx;subst hv;refine ⟨.float .f64 (F.Pa .down b),fun w=>?_,rfl⟩;rw [run_callFunc_extern hf hng eG r1 r2];unfold F.rl at hb;unfold F.Pa;unfold Extern.MathFloor.toIntegral
       conv=>lhs;arg 1;arg 2;whnf
       revert hb;generalize FloatKind.f64.decode b=d
       cases d with
       | nan s t=>exact fun hb=>hb.elim
       | infinity s=>exact fun _=>rfl
       | number s m i=>exact fun _=>rfl
    ·exact h.elim
   rename_i hnf;have hn':fn.name= "math.Float64frombits" :=(hn.resolve_left Kf).resolve_right hnf;split at h
   ·rename_i n;rw [T.ad] at h;subst h;obtain ⟨r1,r2⟩:=Dh (name:= "math.Float64frombits") (e:=Extern.MathFloatBits.float64frombits) (by kernel_rfl) (by kernel_rfl) (fun _ _ _=>by kernel_rfl) hn' ho
    cases ha with
    | @cons _ v0 _ vs hx iP=>
      cases iP;have hv:v0= .int .u64 n:=hx;subst hv;refine ⟨.float .f64 n.toNat,fun w=>?_,rfl⟩;rw [run_callFunc_extern hf hng eG r1 r2];rfl
   ·exact h.elim
 ·cases hx
theorem Kt {P:Program} {H:Heap cod} {w:World} {M:Nat→Prop} {s d:TypeId} {x:SV} {v:Value} {out:Out cod} (h:(NG P H s d x).ah out) (G:Good env H w M) (hx:aS env H.length x v):
 ∃v' w',(convert s d v).run P w= .ok v' w'∧fw env H w M out v' w':=by
 unfold NG at h;split at h
 ·rename_i e hh n t hd;split at h
  ·rename_i u l ty dN he;split at h
   ·rename_i hc;obtain ⟨rfl,hn⟩:=hc;rw [T.ad] at h;subst h;have ho:H[hh]? =some (.arr u l ty):=aE dN (fun e=>by cases e);obtain ⟨p1,p2,p3,p4⟩:=G.obj hh _ ho;obtain ⟨hN,A,c,rfl,q1,q2,q3,q4⟩:=hx;have q5:=q4 hn;have hA:A=some ⟨(env hh).block,0,none⟩:=by rw [q5];simp [HV.addr,p1]
    subst hA;have cI:(env hh).block < w.heap.size:=(Array.getElem?_eq_some_iff.1 p4).1
    have hsh:w.shape? (env hh).block=some (ty,(aN (cod u) l).toArray.size):=by
     unfold World.shape?;rw [p4]
    refine ⟨.slice (some ⟨(env hh).block,0,none⟩) n c,w.freeze ⟨(env hh).block,(aN (cod u) l).toArray.size,none⟩ 1,?_,env,(eH.refl _ _).but _,by simp,⟨by simpa using hN,_,c,rfl,q1,q2,q3,fun _=>q5⟩,?_,?_⟩
    ·simp [convert,run_underlying hd,run_underlying he,markStringish,hsh]
    ·have hat:∀k,k≠(env hh).block→(w.freeze ⟨(env hh).block,(aN (cod u) l).toArray.size,none⟩ 1).heap[k]? =w.heap[k]? :=fun k hk=>by
      unfold World.freeze;rw [if_neg (by decide)];simp only [Array.getElem?_modify];rw [if_neg (fun e=>hk e.symm)]
     have kt:(w.freeze ⟨(env hh).block,(aN (cod u) l).toArray.size,none⟩ 1).heap.size=w.heap.size:=by
      unfold World.freeze;rw [if_neg (by decide)];simp
     have hb:(w.freeze ⟨(env hh).block,(aN (cod u) l).toArray.size,none⟩ 1).heap[(env hh).block]? =some (.cells (aN (cod u) l).toArray ty ((aN (cod u) l).toArray.size,(aN (cod u) l).toArray.size+1)):=by
      unfold World.freeze;rw [if_neg (by decide)];simp only [Array.getElem?_modify,if_true,p4,Option.map_some];rfl
     refine G.write ho rfl (b:=(env hh).block) rfl (by rw [kt];exact Nat.le_refl _) hat ⟨p2,fun j q hq=>?_,fun _=>by rw [kt];exact cI⟩ (fun c hc=>hc.2);simp only [World.cell?,hb,p1,Nat.zero_add];simpa using hq
    ·refine ⟨?_,?_,?_,?_,fun k _ hk=>?_,re ?_⟩
     all_goals unfold World.freeze
     all_goals rw [if_neg (by decide)]
     ·simp
     ·simp only [Array.getElem?_modify];rw [if_neg (fun e=>hk (by rw [←e];exact p3))]
     ·exact Nat.le_refl _
   ·exact h.elim
  ·exact h.elim
 ·exact h.elim
theorem uH {c:aO} (hb:∀a:c.α,∃n,c.enc a=[.int .u8 n]):∀(l:List c.α),∃ns:List Int,aN c l=ns.map (Value.int .u8)∧l.map (byteOf c)=ns.map fun n=>UInt8.ofNat n.toNat
 | []=>⟨[],rfl,rfl⟩
 | a::l=>by
   obtain ⟨ns,h1,h2⟩:=uH hb l;obtain ⟨n,hn⟩:=hb a;refine ⟨n::ns,?_,?_⟩
   ·unfold aN at h1 ⊢;simp only [List.flatMap_cons,List.map_append,hn,h1,List.map_cons,List.map_nil];rfl
   ·simp only [List.map_cons,h2,byteOf,hn]
theorem foldl_push_bytes:∀(ns:List Int) (r:ByteArray),ns.foldl (fun r n=>r.push (UInt8.ofNat n.toNat)) r=⟨r.data++(ns.map fun n=>UInt8.ofNat n.toNat).toArray⟩
 | [],r=>by simp
 | n::ns,r=>by
   simp only [List.foldl_cons];rw [foldl_push_bytes ns];simp [ByteArray.push]
theorem Av (cfg:aT cod) {H:Heap cod} {w:World} {M:Nat→Prop} {s d:TypeId} {x r:SV} {v:Value} (hk:eD cfg.P s d=2) (h:(jL cfg H s x).ah r) (G:Good env H w M) (hx:aS env H.length x v):
 ∃v',(convert s d v).run cfg.P w= .ok v' w∧aS env H.length r v':=by
 unfold jL at h;split at h
 ·rename_i e hs;split at h
  ·rename_i u he hu;rw [T.aw] at h;obtain ⟨l,hl,h⟩:=h;rw [T.ak,T.ad] at h;obtain ⟨hb,rfl⟩:=h
   have hd:cfg.P.underlying d=some .string:=by
    unfold eD at hk;split at hk
    ·cases hk
    ·assumption
    ·cases hk
    ·cases hk
   obtain ⟨A,m,c,rfl,hm,_,_,hA⟩:=nM hl G hx;obtain ⟨ns,h1,h2⟩:=uH hb l
   have hlen:ns.length=m:=by
    have:=congrArg List.length h2;simp at this;omega
   rw [run_convert_bytes_string w s d e A m c hs he hd];rcases A with _ | a
   ·have hm0:m=0:=by
     rcases Nat.eq_zero_or_pos m with h | h
     ·exact h
     ·obtain ⟨a,ha,_⟩:=hA h;cases ha
    have hl0:l=[]:=List.eq_nil_of_length_eq_zero (by omega);subst hl0;exact ⟨_,rfl,rfl⟩
   ·have ae0:(loadCells a m).run cfg.P w= .ok (ns.map (Value.int .u8)).toArray w:=by
     have:=run_loadCells_list (P:=cfg.P) w a (ns.map (Value.int .u8)) (fun j q hq=>by
      rw [←h1] at hq
      have Pw:0 < m:=by
       have h5:=(List.getElem?_eq_some_iff.1 hq).1;rw [h1,List.length_map] at h5;omega
      obtain ⟨a',ha,hc⟩:=hA Pw;cases ha;exact hc j q hq)
     rw [List.length_map,hlen] at this;exact this
    refine ⟨_,run_bytesToString w a m c ns ae0,?_⟩;rw [foldl_push_bytes];show _=Value.string _;rw [h2];congr 1;simp
  ·exact h.elim
 ·exact h.elim
theorem uG {P:Program} {env:Env} {N:Nat} {t e:TypeId} {n:Nat} {ps:List (Nat×SV)} {qs:Array (Nat×Value)} {cs:List Cell} (ht:P.underlying t=some (.slice e)) (bP:P.cellsOf e≠0)
 (hz:(zeroCells P e).isSome=true) (kt:n*P.cellsOf e≤65536) (hf:pd (fun i=>some (i*P.cellsOf e,P.cellsOf e)) (List.replicate (n*P.cellsOf e) .eJ) ps=some cs) (hp:F2 (fun p q=>p.1=q.1∧aS env N p.2 q.2) ps qs.toList) (w:World):
 ∃vs,ct env N cs vs∧(Instr.buildSlice t n qs).run P w= .ok (.slice (some ⟨w.heap.size,0,none⟩) n n) (w.alloc (.cells vs.toArray e)):=by
 have yk:=bO (P:=P) (e:=e) bP;obtain ⟨zc,hz⟩:=Option.isSome_iff_exists.1 hz;unfold zeroCells at hz;obtain ⟨i,hi⟩:=Option.isSome_iff_exists.1 yk
 cases rv:i.zero with
 | none=>simp [hi,rv] at hz
 | some z=>
   have aeP:∀(m:Nat) (vs:List Value),vs.length=m→ct env N (List.replicate m .eJ) vs:=by
    intro m
    induction m with
    | zero=>intro vs hv;have:vs=[]:=List.eq_nil_of_length_eq_zero hv;subst this;exact .nil
    | succ m ih=>
      intro vs hv
      match vs,hv with
      | v::vs,hv=>exact .cons trivial (ih vs (by simpa using hv))
   obtain ⟨vs,h1,h2⟩:=lQ _ _ _ cs ((Array.range (n*P.cellsOf e)).map (z.cells[·% z.cells.size]!)).toList hf (aeP _ _ (by simp)) hp;refine ⟨vs,h2,?_⟩
   have jj:Instr.fill (fun i=>some (i*P.cellsOf e,P.cellsOf e)) ((Array.range (n*P.cellsOf e)).map (z.cells[·% z.cells.size]!)) qs.toList=some vs.toArray:=by
    rw [Array.toArray_toList] at h1;exact h1
   have hzv:(zeroValue e).run P w= .ok z w:=by simp [zeroValue,typeInfo,hi,rv]
   have h24:¬(2^24 < n*P.cellsOf e):=by omega
   unfold Instr.buildSlice;by_cases hn:n*P.cellsOf e=0
   ·have ahi:Instr.fill (fun i=>some (i*P.cellsOf e,P.cellsOf e)) ((Array.range 0).map ((#[]:Array Value)[·% (#[]:Array Value).size]!)) qs.toList=some vs.toArray:=by
     have h0:∀f:Nat→Value,(Array.range 0).map f=#[]:=fun f=>by simp
     rw [←jj,hn,h0,h0]
    simp only [Sem.run_bind,run_underlying ht,Result.andThen_ok,bL yk,Sem.run_ite,gt_iff_lt,if_false,hn,if_true,hzv,Sem.run_pure,ahi,newRow,run_newObj,Nat.not_lt_zero];rfl
   ·simp only [Sem.run_bind,run_underlying ht,Result.andThen_ok,bL yk,Sem.run_ite,gt_iff_lt,h24,if_false,hn,hzv,Sem.run_pure,jj,newRow,run_newObj];rfl
theorem pg {α:Type} {k:Nat} {v:α}:∀{l:List (Nat×α)},l.lookup k=some v→(k,v)∈l
 | [],h=>by cases h
 | (k',v')::l,h=>by
   simp only [List.lookup] at h;split at h
   ·rename_i e;obtain rfl:k=k':=by simpa using e
    cases h;exact List.mem_cons_self ..
   ·exact List.mem_cons_of_mem _ (pg h)
theorem ow (cfg:aT cod) (hS:kB cfg) {tm:List SV} {H:Heap cod} {w:World} {M:Nat→Prop} {o:Oper} {out:Out cod} (hnp:fJ o=true→o.dst.bind cfg.place=none) (h:(iB cfg tm H o).ah out) (G:Good env H w M) (hM:∀k,w.heap.size≤k→M k)
 (ρ:Operand→Value) (hρ:∀x,aS env H.length (cD tm x) (ρ x)):iL cfg.P (fw env H w M out) ((execOp ρ o).run cfg.P w):=by
 have bG:∀{t:T SV},(t.bind fun v=>T.ret ({v:=v,H:=H}:Out cod)).ah out→∃v,t.ah v∧out={v:=v,H:=H}:=fun {t} hk=>by
  rw [T.aw] at hk;obtain ⟨v,h1,h2⟩:=hk;rw [T.ad] at h2;exact ⟨v,h1,h2.symm⟩
 have aa9:∀x,(match fe x,cfg.P.underlying o.type with
  | true,some (.slice e)=>match cfg.tv e with
    | some u=>gh H (.own u [] e) (.c (.own H.length 0))
    | none=>.ret {v:=cD tm x,H:=H}
  | _,_=>.ret {v:=cD tm x,H:=H}:T (Out cod)).ah out→fw env H w M out (ρ x) w:=by
  intro x h;have hx:=hρ x;split at h
  ·rename_i e hn hu
   have he:cD tm x= .c .nil:=by
    unfold fe at hn;split at hn
    ·rfl
    ·cases hn
   rw [he] at hx;split at h
   ·rename_i u hk;rw [gh,T.ad] at h;subst h;have hv:ρ x= .slice none 0 0:=hx;rw [hv];have ho:w.ownsRow 0 e (cod u).size (.slice none 0 0) ([]:List (cod u).α).length (aN (cod u) []):=World.ownsRow_nil w 0 e _;refine eT (hv:=⟨0,0,(cod u).size,.slice none 0 0,[]⟩) (G.push _ _ (Nat.le_refl _) (fun _ _=>rfl) ?_ (fun b hb=>by simp [av.has,Value.ownBlock] at hb)) ?_ (gR.refl _ _)
    ·exact oy ho (fun b hb=>by cases hb) _ _
    ·exact nJ (N:=H.length+1) ho rfl (env.set H.length ⟨0,0,(cod u).size,.slice none 0 0,[]⟩) (Nat.lt_succ_self _) (Env.aU _ _ _)
   ·rw [T.ad] at h;subst h;rw [he];exact bj G hx
  ·rw [T.ad] at h;subst h;exact bj G hx
 unfold iB at h;unfold execOp
 cases ho:o.op with
 | move x=>simp only [ho] at h ⊢;exact aa9 x h
 | assign x=>simp only [ho] at h ⊢;exact aa9 x h
 | pick c a b=>
   simp only [ho] at h ⊢;have hc:=hρ c;split at h
   ·rename_i b' e;rw [e] at hc;have cY:ρ c= .bool b':=hc;rw [T.fY] at h;simp only [cY,asBool,Sem.run_bind,Sem.run_pure,Result.andThen_ok];cases b'
    ·simp only [Bool.false_eq_true,if_false,T.ad] at h;subst h;exact bj G (hρ b)
    ·simp only [if_true,T.ad] at h;subst h;exact bj G (hρ a)
   ·exact h.elim
 | alloc e=>
   simp only [ho] at h ⊢;split at h
   ·rename_i cs hz;rw [iy,hnp (by unfold fJ;rw [ho]),gh,T.ad] at h;subst h;unfold zeroCells at hz
    cases hi:cfg.P.info? e with
    | none=>simp [hi] at hz
    | some i=>
      cases rv:i.zero with
      | none=>simp [hi,rv] at hz
      | some z=>
        simp only [hi,rv,Option.bind_some,Option.some.injEq] at hz;subst hz;obtain ⟨k,hk⟩:=NK cfg G hM e (c8 (env:=env) (N:=H.length) z);rw [Array.toArray_toList] at hk
        have cW:(Instr.alloc e true (.tuple #[])).run cfg.P w= .ok (.pointer (some ⟨w.heap.size,0,none⟩)) (w.alloc (.cells z.cells e)):=by
         simp [Instr.alloc,zeroValue,typeInfo,hi,rv,newVar,newRow]
        simp only [Sem.run_bind,cW,Result.andThen_ok,Sem.run_pure];exact eT hk ⟨Nat.lt_succ_self _,by rw [Env.aU,ia]⟩ ((gR.refl M w).alloc _)
   ·exact h.elim
 | box e x=>
   simp only [ho] at h ⊢;split at h
   ·rename_i h1;rw [iy,hnp (by unfold fJ;rw [ho]),gh,T.ad] at h;subst h;obtain ⟨k,hk⟩:=NK cfg G hM e (mf (hρ x) h1);rw [Array.toArray_toList] at hk
    have cW:(Instr.box e (ρ x)).run cfg.P w= .ok (.pointer (some ⟨w.heap.size,0,none⟩)) (w.alloc (.cells (ρ x).cells e)):=by
     simp [Instr.box,newVar,newRow]
    simp only [Sem.run_bind,cW,Result.andThen_ok,Sem.run_pure];exact eT hk ⟨Nat.lt_succ_self _,by rw [Env.aU,ia]⟩ ((gR.refl M w).alloc _)
   ·exact h.elim
 | build t parts=>
   simp only [ho] at h ⊢;split at h
   ·rename_i cs hb;rw [T.ad] at h;subst h;have hp:F2 (fun p q=>p.1=q.1∧aS env H.length p.2 q.2) (parts.toList.map fun p=>(p.1,cD tm p.2)) (parts.toList.map fun p=>(p.1,ρ p.2)):=e8 fun a _=>⟨rfl,hρ a.2⟩;obtain ⟨vs,h1,h2⟩:=Fz hb hp;have cW:=run_build (P:=cfg.P) w t (parts.map fun (i,x)=>(i,ρ x)) vs.toArray (by simpa using h1);simp only [Sem.run_bind,cW,Result.andThen_ok,Sem.run_pure];exact bj G ⟨_,rfl,by simpa using h2⟩
   ·exact h.elim
 | buildSlice t n parts=>
   simp only [ho] at h ⊢;split at h
   ·rename_i e ht
    have hp:F2 (fun p q=>p.1=q.1∧aS env H.length p.2 q.2) (parts.toList.map fun p=>(p.1,cD tm p.2)) (parts.map fun (i,x)=>(i,ρ x)).toList:=by
     rw [show (parts.map fun (i,x)=>(i,ρ x)).toList=parts.toList.map (fun p=>(p.1,ρ p.2)) from by simp];exact e8 fun a _=>⟨rfl,hρ a.2⟩
    have hmx:n*cfg.P.cellsOf e≤65536→cfg.P.cellsOf e≠0→n≤maxLen:=fun h1 h2=>by
     have:n*1≤n*cfg.P.cellsOf e:=Nat.mul_le_mul_left _ (by omega);unfold maxLen;omega
    split at h
    ·rename_i cs u hf hk;split at h
     ·rename_i l hl;split at h
      ·rename_i hc;obtain ⟨kt,pe,hz⟩:=hc;have bP:cfg.P.cellsOf e≠0:=by have:=(cod u).pos;omega
       rw [gh,T.ad] at h;subst h;obtain ⟨vs,h2,cW⟩:=uG ht bP hz kt hf hp w;obtain ⟨hfl,hll⟩:=jV hl
       have hv:vs=aN (cod u) l:=by
        rw [cN (env:=env) (N:=H.length) (cs:=cs) (by rw [←hfl];exact gD _ _) h2,←hfl];rfl
       subst hv;simp only [Sem.run_bind,cW,Result.andThen_ok,Sem.run_pure];exact eT (DR G hM u l e) ⟨Nat.lt_succ_self _,_,_,rfl,Nat.le_refl _,hmx kt bP,fun _=>rfl,fun _=>by rw [Env.aU,ia]⟩ ((gR.refl M w).alloc _)
      ·exact h.elim
     ·exact h.elim
    ·rename_i cs hf hk;split at h
     ·rename_i hc;obtain ⟨kt,bP,hz⟩:=hc;rw [gh,T.ad] at h;subst h;obtain ⟨vs,h2,cW⟩:=uG ht bP hz kt hf hp w;simp only [Sem.run_bind,cW,Result.andThen_ok,Sem.run_pure];exact eT (wc G hM e h2) ⟨Nat.lt_succ_self _,_,_,rfl,Nat.le_refl _,hmx kt bP,fun _=>rfl,fun _=>by rw [Env.aU,ia]⟩ ((gR.refl M w).alloc _)
     ·exact h.elim
    ·exact h.elim
   ·exact h.elim
 | load t x=>
   simp only [ho] at h ⊢;have hx:=hρ x;split at h
   ·rename_i k i off e;rw [e] at hx;obtain ⟨cI,hv⟩:=hx
    have hi:∀cs n,(fH H k i off n).ah cs→∃vs:List Value,vs.length=n∧ct env H.length cs vs∧(loadCells ((env k).addr i off) n).run cfg.P w= .ok vs.toArray w∧∀j u,vs[j]? =some u→w.cell? (((env k).addr i off).add j)=some u:=by
     intro cs n hl;obtain ⟨h1,vs,h2,h3⟩:=yx hl G;have hlen:=cq h2;have:=run_loadCells_list (P:=cfg.P) w ((env k).addr i off) vs h3;rw [←hlen,h1] at this;exact ⟨vs,by omega,h2,this,h3⟩
    split at h
    ·rename_i Dx;obtain ⟨v,qp,rfl⟩:=bG h;rw [T.aw] at qp;obtain ⟨cs,hl,hr⟩:=qp;rw [T.ad] at hr;subst hr;obtain ⟨vs,h1,h2,h3,_⟩:=hi cs _ hl
     have hu:(cfg.P.underlying t).isSome=true:=by
      unfold dm at Dx;split at Dx<;>simp_all
     have cW:(Instr.loadAt t (ρ x)).run cfg.P w= .ok (.agg vs.toArray) w:=by
      rw [hv];simp [Instr.loadAt,Instr.sureAddr,loadVar,ga t w hu,Dx,bL (jX hu),h3]
     simp only [Sem.run_bind,cW,Result.andThen_ok,Sem.run_pure];exact bj G ⟨_,rfl,by simpa using h2⟩
    ·rename_i Dx;split at h
     ·rename_i hu;obtain ⟨v,qp,rfl⟩:=bG h;rw [T.aw] at qp;obtain ⟨cs,hl,hr⟩:=qp;split at hr
      ·rename_i c;rw [T.ad] at hr;subst hr;obtain ⟨vs,h1,h2,h3,h4⟩:=hi _ _ hl
       cases h2 with
       | @cons _ u _ us hcu hn=>
         cases hn;have hc:=h4 0 u rfl;have yf:((env k).addr i off).add 0=(env k).addr i off:=by simp [Addr.add]
         rw [yf] at hc
         have cW:(Instr.loadAt t (ρ x)).run cfg.P w= .ok u w:=by
          rw [hv];simp [Instr.loadAt,Instr.sureAddr,loadVar,ga t w hu,Dx,hc]
         simp only [Sem.run_bind,cW,Result.andThen_ok,Sem.run_pure];exact bj G hcu
      ·exact hr.elim
     ·exact h.elim
   ·rename_i a e;rw [e] at hx;have hv:ρ x= .pointer (some a):=hx;split at h
    ·rename_i hc;obtain ⟨v,qp,rfl⟩:=bG h;unfold Ra at qp;split at qp
     ·rename_i l Uw hl;split at qp
      ·rename_i k b hb;rw [T.ad] at qp;subst qp;have hm:(a.block,l)∈W5:=pg hl;obtain ⟨⟨cs,ty,tg,h1,pX⟩,_⟩:=G.sr _ (aak _ hm);have aco:cs=l.toArray:=pX
       have nz:w.cell? a=some (.float k b):=by
        obtain ⟨ab,ao,asp⟩:=a;cases Uw;simp [World.cell?,h1,aco,hb]
       have cW:(Instr.loadAt t (ρ x)).run cfg.P w= .ok (.float k b) w:=by
        rw [hv];simp [Instr.loadAt,Instr.sureAddr,loadVar,ga t w hc.2,hc.1,nz]
       simp only [Sem.run_bind,cW,Result.andThen_ok,Sem.run_pure];exact bj G rfl
      ·exact qp.elim
     ·exact qp.elim
    ·exact h.elim
   ·exact h.elim
 | store t x y=>
   simp only [ho] at h ⊢;have hx:=hρ x;split at h
   ·rename_i k i off e;rw [e] at hx;obtain ⟨cI,hv⟩:=hx;split at h
    ·rename_i yi;obtain ⟨kt,kW,h0⟩:=yi;rw [T.aw] at h;obtain ⟨H',Gq,hr⟩:=h;rw [T.ad] at hr;subst hr;have hy:=mf (hρ y) kW;obtain ⟨w',h1,h2,h3,h4⟩:=HY (P:=cfg.P) Gq hy G;have hlen:=cq hy;have yk:(cfg.P.info? t).isSome=true:=bO h0
     have cW:(Instr.storeAt t (ρ x) (ρ y)).run cfg.P w= .ok () w':=by
      rw [hv];have:(ρ y).cells.size=cfg.P.cellsOf t:=by rw [←kt,hlen];simp
      simp [Instr.storeAt,Instr.sureAddr,storeVar,bL yk,this,h1]
     simp only [Sem.run_bind,cW,Result.andThen_ok,Sem.run_pure];exact ⟨env,(eH.refl _ _).but _,by simp [h4],rfl,h2,h3⟩
    ·exact h.elim
   ·exact h.elim
 | nilCheck x=>
   simp only [ho] at h ⊢;have hx:=hρ x;split at h
   ·rename_i k i off e;rw [e] at hx;rw [T.ad] at h;subst h;have hv:=hx.2;simp only [hv,Sem.run_pure];rw [←hv];exact bj G hx
   ·rename_i f dC e;rw [e] at hx;rw [T.ad] at h;subst h;have hv:=hx.2;simp only [hv,Sem.run_pure];rw [←hv];exact bj G hx
   ·exact h.elim
 | binOp op t x y ty=>
   simp only [ho] at h ⊢;obtain ⟨v,hv,rfl⟩:=bG h;obtain ⟨gU,h1,h2⟩:=C3 hv (hρ x) (hρ y) x y;have:=h1 w;simp only [Sem.run_bind] at this ⊢;simp only [this,Result.andThen_ok,Sem.run_pure]
   exact bj G h2
 | unOp op t x=>
   simp only [ho] at h ⊢;obtain ⟨v,hv,rfl⟩:=bG h;obtain ⟨gU,h1,h2⟩:=Xc (P:=cfg.P) hv (hρ x);simp only [Sem.run_bind,h1,Result.andThen_ok,Sem.run_pure]
   exact bj G h2
 | convert s d x=>
   simp only [ho] at h ⊢;split at h
   ·rename_i hk;obtain ⟨v',w',h1,h2⟩:=AD cfg hk h G hM (hρ x);simp only [Sem.run_bind,h1,Result.andThen_ok,Sem.run_pure];exact h2
   ·rename_i hk;obtain ⟨v,hv,rfl⟩:=bG h;obtain ⟨gU,h1,h2⟩:=Av cfg hk hv G (hρ x);simp only [Sem.run_bind,h1,Result.andThen_ok,Sem.run_pure];exact bj G h2
   ·obtain ⟨v',w',h1,h2⟩:=Kt h G (hρ x);simp only [Sem.run_bind,h1,Result.andThen_ok,Sem.run_pure];exact h2
   ·obtain ⟨v,hv,rfl⟩:=bG h;obtain ⟨gU,h1,h2⟩:=Jz hv (hρ x);simp only [Sem.run_bind,h1,Result.andThen_ok,Sem.run_pure]
    exact bj G h2
 | slice t x lo hi mx=>
   simp only [ho] at h ⊢;obtain ⟨v,hv,rfl⟩:=bG h
   have opt:∀(q:Option Operand),(∀y,q.map (cD tm)=some y→∃u,q.map ρ=some u∧aS env H.length y u)∧(q.map (cD tm)=none→q.map ρ=none):=fun q=>by
    cases q with
    | none=>exact ⟨(fun y hy=>by cases hy),fun _=>rfl⟩
    | some q=>exact ⟨fun y hy=>⟨ρ q,rfl,by simp only [Option.map_some,Option.some.injEq] at hy;rw [←hy];exact hρ q⟩,(fun hn=>by cases hn)⟩
   obtain ⟨gU,h1,h2⟩:=Hx hv G (hρ x) (opt lo).1 (opt lo).2 (opt hi).1 (opt hi).2 (opt mx).1 (opt mx).2;simp only [Sem.run_bind,h1,Result.andThen_ok,Sem.run_pure]
   exact bj G h2
 | fieldAddr t x f=>
   simp only [ho] at h ⊢;have hx:=hρ x;split at h
   ·rename_i k i off fs e ht;rw [e] at hx;obtain ⟨cI,hv⟩:=hx;split at h
    ·rename_i fl hf;split at h
     ·exact h.elim
     ·rename_i hc;rw [T.ad] at h;subst h
      have cW:(Instr.fieldAt t (ρ x) f).run cfg.P w= .ok (.pointer (some (((env k).addr i off).add fl.offset))) w:=by
       rw [hv];simp [Instr.fieldAt,run_underlying ht,hf,Instr.sureAddr,fieldPlace,bL (bO hc),hc]
      simp only [Sem.run_bind,cW,Result.andThen_ok,Sem.run_pure];exact bj G ⟨cI,by rw [dp]⟩
    ·exact h.elim
   ·exact h.elim
 | field t x f=>
   simp only [ho] at h ⊢;have hx:=hρ x;split at h
   ·rename_i cs fs e ht;rw [e] at hx;obtain ⟨vs,hv,ym⟩:=hx;split at h
    ·rename_i fl hf;split at h
     ·rename_i hu;obtain ⟨r,hr,rfl⟩:=bG h;obtain ⟨gU,h1,h2⟩:=yJ hr ym hu;have jj:=h1 w;rw [Array.toArray_toList] at jj
      have cW:(Instr.field t (ρ x) f).run cfg.P w= .ok gU w:=by
       rw [hv];simp [Instr.field,run_underlying ht,hf,asAgg,jj]
      simp only [Sem.run_bind,cW,Result.andThen_ok,Sem.run_pure];exact bj G h2
     ·exact h.elim
    ·exact h.elim
   ·exact h.elim
 | indexAddr t x ix=>
   simp only [ho] at h ⊢;obtain ⟨v,hv,rfl⟩:=bG h;obtain ⟨gU,h1,h2⟩:=vE hv G (hρ x) (hρ ix);simp only [Sem.run_bind,h1,Result.andThen_ok,Sem.run_pure]
   exact bj G h2
 | index t x ix=>
   simp only [ho] at h ⊢;obtain ⟨v,hv,rfl⟩:=bG h;obtain ⟨gU,h1,h2⟩:=Gw cfg hv (hρ x) (hρ ix) w;simp only [Sem.run_bind,h1,Result.andThen_ok,Sem.run_pure]
   exact bj G h2
 | extract t i=>
   simp only [ho] at h ⊢;have hx:=hρ t;split at h
   ·rename_i vs e;rw [e] at hx;obtain ⟨us,hu,hf⟩:=hx;split at h
    ·rename_i v hv;rw [T.ad] at h;subst h;obtain ⟨u,h1,h2⟩:=pW hf hv
     have cW:(Instr.extract (ρ t) i).run cfg.P w= .ok u w:=by
      rw [hu];simp only [Array.getElem?_toList] at h1;simp [Instr.extract,h1]
     simp only [Sem.run_bind,cW,Result.andThen_ok,Sem.run_pure];refine bj G ?_
     cases v with
     | c x=>exact h2
     | agg cs=>exact h2
     | aP l=>exact h2.elim
    ·exact h.elim
   ·exact h.elim
 | makeSlice t n c=>
   simp only [ho] at h ⊢;have hn:=hρ n;have hc:=hρ c;split at h
   ·rename_i e kn n' kc c' ht hen hec;rw [hen] at hn;rw [hec] at hc;have hn:ρ n= .int kn n':=hn;have hc:ρ c= .int kc c':=hc;split at h
    ·rename_i u z hk hz;split at h
     ·rename_i yi;obtain ⟨qo,pe,hby⟩:=yi;rw [T.ak,gh,T.ad] at h;obtain ⟨⟨DC,hn1,rfl⟩,rfl⟩:=h;unfold zeroCells at hz
      cases hi:cfg.P.info? e with
      | none=>simp [hi] at hz
      | some i=>
        cases rv:i.zero with
        | none=>simp [hi,rv] at hz
        | some zv=>
          simp only [hi,rv,Option.bind_some,Option.some.injEq] at hz;subst hz;have hzr:=c8 (env:=env) (N:=H.length) zv;have BD:(SV.ofValue zv).cells.all Cell.scalar=true:=by rw [←(cod u).ck _ qo];exact (cod u).l3 _
          have hzv:=cN BD hzr;have hb:cfg.P.bytesOf e=i.bytes:=by simp [Program.bytesOf,hi]
          have hs:cfg.P.cellsOf e=i.size:=by simp [Program.cellsOf,hi]
          have hbb:(i.bytes:Int)*c'≤281474976710656:=by
           have h1:(i.bytes:Int)*c'≤(i.bytes:Int)*1000000:=Int.mul_le_mul_of_nonneg_left hn1 (by omega);omega
          have cW:=run_make (P:=cfg.P) w t e i zv ht hi rv kn kc c' c' DC (Int.le_refl _) hbb (by omega);have hmv:=BK (cod u) zv.cells.toList ((cod u).dec (SV.ofValue zv).cells) (by rw [(cod u).ck _ qo];exact hzv) c'.toNat;rw [Array.toArray_toList,←pe,hs] at hmv;have hmk:madeCells zv.cells (c'.toNat*i.size)=(aN (cod u) (List.replicate c'.toNat ((cod u).dec (SV.ofValue zv).cells))).toArray:=by rw [←hmv,Array.toArray_toList]
          rw [hmk] at cW;simp only [hn,hc,Sem.run_bind,cW,Result.andThen_ok,Sem.run_pure];exact eT (DR G hM u _ e) ⟨Nat.lt_succ_self _,_,_,rfl,Nat.le_refl _,by unfold maxLen;omega,fun _=>rfl,fun _=>by rw [Env.aU,ia]⟩ ((gR.refl M w).alloc _)
     ·exact h.elim
    ·exact h.elim
   ·exact h.elim
 | makeFunc fn first dC=>
   cases fn with
   | func f=>
     simp only [ho] at h ⊢;split at h
     ·rename_i hf;have hf':first=#[]:=by simpa using hf
      split at h
      ·rename_i l hl;rw [T.ad] at h;subst h;obtain ⟨h1,h2⟩:=qL hl (e8 (g:=ρ) fun a _=>hρ a);have cW:(Instr.makeFunc (.func f) (first.map ρ) (dC.map ρ)).run cfg.P w= .ok (.func (.func f) (first.map ρ) (dC.map ρ)) w:=rfl;simp only [Sem.run_bind,cW,Result.andThen_ok,Sem.run_pure];refine bj G ⟨h2,?_⟩;rw [hf',←h1,←qG,Array.map_empty]
      ·exact h.elim
     ·exact h.elim
   | _=>simp only [ho] at h;exact h.elim
 | call c=>
   obtain ⟨callee,args,ts⟩:=c;have aJ:F2 (aS env H.length) (args.toList.map (cD tm)) (args.toList.map ρ):=e8 fun a _=>hρ a
   cases callee with
   | builtin b=>
     simp only [ho] at h ⊢;have:=Ag (ty:=o.type) (cs:=args.map fun | .const _=>true | _=>false) cfg h G hM aJ;simp only [resolve,invoke,Sem.run_bind,Sem.run_pure,Result.andThen_ok];rw [←qG] at this
     exact this
   | value f=>
     simp only [ho] at h ⊢;have hf:=hρ f;split at h
     ·rename_i g dC e;rw [e] at hf;obtain ⟨acm,hv⟩:=hf
      have iI:F2 (aS env H.length) (args.toList.map (cD tm)++dC.map fun c=>SV.c (.ptr c.1 c.2.1 c.2.2)) (args.toList.map ρ++dC.map fun c=>Value.pointer (some ((env c.1).addr c.2.1 c.2.2))):=
       oe aJ (e8 fun a ha=>⟨acm a ha,rfl⟩)
      have hd:(resolve ρ ⟨.value f,args,ts⟩ o.type).run cfg.P w= .ok {target:=.fn (.func g) (dC.map fun c=>Value.pointer (some ((env c.1).addr c.2.1 c.2.2))).toArray,args:=args.map ρ} w:=by
       simp only [resolve,hv,Deferred.ofValue];simp
      by_cases vD:jY cfg.P g=true
      ·rw [if_pos vD] at h;obtain ⟨v,hv2,rfl⟩:=bG h;obtain ⟨gU,h1,h2⟩:=O3 vD hv2 iI;have h1:=h1 w;rw [show (args.toList.map ρ++dC.map fun c=>Value.pointer (some ((env c.1).addr c.2.1 c.2.2))).toArray=(args.map ρ++(dC.map fun c=>Value.pointer (some ((env c.1).addr c.2.1 c.2.2))).toArray) from by rw [qG];simp] at h1;simp only [Sem.run_bind,hd,Result.andThen_ok,invoke,h1];exact bj G h2
      rw [if_neg vD] at h;obtain ⟨pY,yg⟩:=Jq cfg hS h G hM iI;simp only [Sem.run_bind,hd,Result.andThen_ok,invoke,pY];rw [show (args.map ρ++(dC.map fun c=>Value.pointer (some ((env c.1).addr c.2.1 c.2.2))).toArray)=(args.toList.map ρ++dC.map fun c=>Value.pointer (some ((env c.1).addr c.2.1 c.2.2))).toArray from by rw [qG];simp];exact yg
     ·exact h.elim
   | invoke r m=>simp only [ho] at h;exact h.elim
 | _=>simp only [ho] at h;exact h.elim
def mR (cfg:aT cod) (H:Heap cod) (h:Nat):Prop:=(∃d,cfg.place d=some h)∧(getObj H h).aV=true
def iV (tm:List SV) (H:Heap cod) (h:Nat):Prop:=(∃v∈tm,h∈v.hs)∨(∃ob∈H,h∈ob.hs)
def Fb (cfg:aT cod) (tm:List SV) (H:Heap cod):Prop:=∀k,mR cfg H k→¬iV tm H k
theorem Fb.none {cfg:aT cod} (h:∀d,cfg.place d=none) (tm:List SV) (H:Heap cod):Fb cfg tm H:=fun k ⟨⟨d,hd⟩,_⟩=>by rw [h d] at hd;cases hd
def ss (cfg:aT cod) (env:Env) (H:Heap cod) (w:World) (M:Nat→Prop) (o:Out cod) (v:Value) (w':World):Prop:=
 ∃aK,(∀h,h < H.length→h∉o.kill→¬mR cfg H h→aK h=env h)∧H.length≤o.H.length∧aS aK o.H.length o.v v∧Good aK o.H w' M∧gR M w w'
theorem fw.two {cfg:aT cod} {H:Heap cod} {w:World} {M:Nat→Prop} {o:Out cod} {v:Value} {w':World} (h:fw env H w M o v w'):ss cfg env H w M o v w':=
 let ⟨aK,h1,h2⟩:=h
 ⟨aK,fun k hk hn _=>h1 k hk hn,h2⟩
theorem iL.mono {P:Program} {R S:Value→World→Prop} (h:∀v w,R v w→S v w):∀{r:Result Next},iL P R r→iL P S r:=fun {r} hr=>by
 cases r with
 | ok n w=>
   cases n with
   | value v=>exact h _ _ hr
   | skip=>exact h _ _ hr
   | enter f args=>exact Calls.mono hr fun e w' ⟨v,h1,h2⟩=>⟨v,h1,h _ _ h2⟩
   | _=>exact hr
 | _=>exact hr
theorem me (cfg:aT cod) (t:TypeId) (cs:List Cell):(fB cfg t cs).wr=true∧(fB cfg t cs).bQ=false∧(fB cfg t cs).aV=false∧(∀h∈(fB cfg t cs).hs,h∈cs.flatMap Cell.hs)∧∀x b,(fB cfg t cs).has x b→b=x.block:=by
 have key:∀o:av cod,(o= .aF cs t∨∃u l,o= .arr u l t)→o.wr=true∧o.bQ=false∧o.aV=false∧(∀h∈o.hs,h∈cs.flatMap Cell.hs)∧∀x b,o.has x b→b=x.block:=by
  rintro o (rfl | ⟨u,l,rfl⟩)
  ·exact ⟨rfl,rfl,rfl,fun _ h=>h,fun _ _ h=>h⟩
  ·exact ⟨rfl,rfl,rfl,(fun _ h=>by cases h),fun _ _ h=>h⟩
 unfold fB;split
 ·split
  ·exact key _ (.inl rfl)
  ·split
   ·exact key _ (.inr ⟨_,_,rfl⟩)
   ·exact key _ (.inl rfl)
 ·exact key _ (.inl rfl)
theorem DN {ks:List Nat} {o:av cod} (h:∀k∈ks,k∉o.hs):o.aX (Cell.bR ks)=o:=by
 have key:∀cs:List Cell,(∀k∈ks,k∉cs.flatMap Cell.hs)→cs.map (Cell.bR ks)=cs:=fun cs hc=>by
  have:cs.map (Cell.bR ks)=cs.map id:=List.map_congr_left fun c mA=>by
   unfold Cell.bR;rw [if_neg]
   ·rfl
   ·intro hh;obtain ⟨k,hk,hkk⟩:=List.any_eq_true.1 hh;exact hc k (by simpa using hkk) (List.mem_flatMap.2 ⟨c,mA,hk⟩)
  rw [this,List.map_id]
 cases o with
 | aF cs ty=>simp only [av.aX,av.aF.injEq,and_true];exact key cs h
 | aY cs=>simp only [av.aX,av.aY.injEq];exact key cs h
 | gL cs=>simp only [av.aX,av.gL.injEq];exact key cs h
 | cj t LL js cs ty tyr=>simp only [av.aX];rw [key cs h]
 | cL t LL op=>
   cases op with
   | none=>rfl
   | some p=>
     have:=key [p.2] (by simpa [av.hs] using h);simp only [List.map_cons,List.map_nil,List.cons.injEq,and_true] at this
     simp only [av.aX,Option.map_some,this]
 | _=>rfl
theorem Good.place {H:Heap cod} {w w':World} {M:Nat→Prop} {k:Nat} {ob0 ob:av cod} (G:Good env H w M) (ho:H[k]? =some ob0) (_:ob0.aV=true) (mq:∀o∈H,k∉o.hs) (x:HV) (hs:w.heap.size≤w'.heap.size) (hk:∀b,b < w.heap.size→w'.heap[b]? =w.heap[b]?)
 (dN:bH (env.set k x) H.length x w' M ob) (vC:∀b,ob.has x b→w.heap.size≤b):Good (env.set k x) (H.set k ob) w' M:=by
 have cI:k < H.length:=(List.getElem?_eq_some_iff.1 ho).1;have mz:kf H.length [k] env (env.set k x):=fun q _ bP=>Env.aD _ _ (by rintro rfl;exact bP (by simp));have G':=G.bG hs hk
 have aL:∀j a,(H.set k ob)[j]? =some a→(j≠k∧H[j]? =some a)∨(j=k∧a=ob):=by
  intro j a ha;by_cases e:j=k
  ·subst e;rw [List.getElem?_set_self cI] at ha;simp only [Option.some.injEq] at ha;exact .inr ⟨rfl,ha.symm⟩
  ·rw [List.getElem?_set_ne (by omega)] at ha;exact .inl ⟨e,ha⟩
 refine ⟨fun j a ha=>?_,fun j j' a a' b bP ha Pq hw hb eG=>?_,G'.sr⟩
 ·rw [List.length_set];rcases aL j a ha with ⟨bP,h1⟩ | ⟨rfl,rfl⟩
  ·rw [Env.aD _ _ bP];have:=dx (f:=Cell.bR [k]) (fun c v hc=>eV (Nat.le_refl _) mz hc) (G'.obj j a h1)
   rwa [DN (fun q hq=>by simp only [List.mem_singleton] at hq;subst hq;exact mq a (List.mem_of_getElem? h1))] at this
  ·rw [Env.aU];exact dN
 ·rcases aL j a ha with ⟨h1,h2⟩ | ⟨rfl,rfl⟩<;>rcases aL j' a' Pq with ⟨jj,oQ⟩ | ⟨rfl,rfl⟩
  ·rw [Env.aD _ _ h1] at hb;rw [Env.aD _ _ jj] at eG;exact G.sep j j' a a' b bP h2 oQ hw hb eG
  ·rw [Env.aD _ _ h1] at hb;rw [Env.aU] at eG;have:=bi (G.obj j a h2) hb;have:=vC b eG;omega
  ·rw [Env.aU] at hb;rw [Env.aD _ _ jj] at eG;have:=bi (G.obj j' a' oQ) eG;have:=vC b hb;omega
  ·exact bP rfl
theorem Qs (cfg:aT cod) {H:Heap cod} {w:World} {M:Nat→Prop} {k:Nat} {ob0:av cod} (G:Good env H w M) (hM:∀k,w.heap.size≤k→M k) (ho:H[k]? =some ob0) (hh:ob0.aV=true) (mq:∀o∈H,k∉o.hs) {cs:List Cell} {vs:List Value} (t:TypeId) (hc:ct env H.length cs vs) (pX:k∉cs.flatMap Cell.hs):
 ∃n,Good (env.set k (kY w n)) (H.set k (fB cfg t cs)) (w.alloc (.cells vs.toArray t)) M:=by
 have mz:kf H.length [k] env (env.set k (kY w 0)):=fun q _ bP=>Env.aD _ _ (by rintro rfl;exact bP (by simp))
 have aco:cs.map (Cell.bR [k])=cs:=by
  have:=DN (cod:=cod) (ks:=[k]) (o:=.aF cs t) (fun q hq=>by simp only [List.mem_singleton] at hq;subst hq;exact pX);simpa only [av.aX,av.aF.injEq,and_true] using this
 have aF:Good (env.set k (kY w 0)) (H.set k (.aF cs t)) (w.alloc (.cells vs.toArray t)) M:=by
  refine G.place ho hh mq _ (by simp) (fun b hb=>heap_alloc_old w _ hb) ⟨rfl,hM _ (Nat.le_refl _),vs,heap_alloc_new w _,?_⟩ (fun b hb=>by simp only [av.has,kY] at hb;omega);have:=jf (f:=Cell.bR [k]) (fun c v h=>eV (Nat.le_refl _) mz h) hc
  rwa [aco] at this
 unfold fB;split
 ·split
  ·exact ⟨0,aF⟩
  ·rename_i u _;split
   ·rename_i l hl;obtain ⟨h1,_⟩:=jV hl
    have hv:vs=aN (cod u) l:=by
     have:=cN (env:=env) (N:=H.length) (cs:=cs) (by rw [←h1];exact gD _ _) hc;rw [this,←h1];rfl
    subst hv;exact ⟨(cod u).size,G.place ho hh mq _ (by simp) (fun b hb=>heap_alloc_old w _ hb) ⟨rfl,rfl,hM _ (Nat.le_refl _),heap_alloc_new w _⟩ (fun b hb=>by simp only [av.has,kY] at hb;omega)⟩
   ·exact ⟨0,aF⟩
 ·exact ⟨0,aF⟩
theorem nH (v:Value):(Cell.ofValue v).hs=[]:=by
 unfold Cell.ofValue;split<;>rfl
theorem iT (v:Value):(SV.ofValue v).cells.flatMap Cell.hs=[]:=by
 unfold SV.ofValue;split
 ·simp only [SV.cells];rw [List.flatMap_eq_nil_iff];intro c hc;obtain ⟨u,_,rfl⟩:=List.mem_map.1 hc;exact nH u
 ·simp [SV.cells,nH]
theorem eC {tm:List SV} {x:Operand} {h:Nat} (hh:h∈(cD tm x).hs):∃v∈tm,h∈v.hs:=by
 cases x with
 | tmp t=>
   simp only [cD] at hh;rcases Nat.lt_or_ge t tm.length with hl | hl
   ·simp only [List.getD,List.getElem?_eq_getElem hl,Option.getD_some] at hh;exact ⟨_,List.getElem_mem hl,hh⟩
   ·simp only [List.getD,List.getElem?_eq_none hl,Option.getD_none] at hh
    cases hh
 | const v=>
   simp only [cD] at hh;have:=iT v;unfold SV.ofValue at this hh;split at hh
   ·simp only [SV.cells] at this;simp only [SV.hs] at hh;rw [this] at hh;cases hh
   ·simp only [SV.hs,nH] at hh
    cases hh
 | global g=>cases hh
 | func f=>cases hh
theorem HZ {x:SV} {h:Nat} (hh:h∈x.cells.flatMap Cell.hs):h∈x.hs:=by
 cases x with
 | c x=>simpa [SV.cells,SV.hs] using hh
 | agg cs=>exact hh
 | aP vs=>simp [SV.cells,Cell.hs] at hh
theorem pQ {tm:List SV} {H:Heap cod} {x:Operand} {h:Nat} (hh:h∈(cD tm x).cells.flatMap Cell.hs):iV tm H h:=.inl (eC (HZ hh))
theorem pZ {cfg:aT cod} {d:Option Nat} {H:Heap cod} {ob:av cod} {out:Out cod} {k:Nat} (hd:d.bind cfg.place=some k) (h:(iy cfg d H ob).ah out):(getObj H k).aV=true∧out={v:=.c (.ptr k 0 0),H:=H.set k ob}:=by
 unfold iy at h;rw [hd] at h;simp only at h;split at h
 ·rename_i hc;rw [T.ad] at h;exact ⟨hc,h.symm⟩
 ·exact h.elim
theorem G8 (cfg:aT cod) (hS:kB cfg) {tm:List SV} {H:Heap cod} {w:World} {M:Nat→Prop} {o:Oper} {out:Out cod} (mq:Fb cfg tm H) (h:(iB cfg tm H o).ah out) (G:Good env H w M) (hM:∀k,w.heap.size≤k→M k)
 (ρ:Operand→Value) (hρ:∀x,aS env H.length (cD tm x) (ρ x)):iL cfg.P (ss cfg env H w M out) ((execOp ρ o).run cfg.P w):=by
 by_cases hn:fJ o=true
 ·cases hp:o.dst.bind cfg.place with
  | none=>exact iL.mono (fun _ _ h=>h.two) (ow cfg hS (fun _=>hp) h G hM ρ hρ)
  | some k=>
    have aaX:(getObj H k).aV=true→mR cfg H k:=fun hh=>by
     obtain ⟨d,_,hd⟩:=Option.bind_eq_some_iff.1 hp;exact ⟨⟨d,hd⟩,hh⟩
    have fin:∀(e:TypeId) (cs:List Cell) (vs:List Value),(iy cfg o.dst H (fB cfg e cs)).ah out→ct env H.length cs vs→(∀h∈cs.flatMap Cell.hs,iV tm H h)→ss cfg env H w M out (.pointer (some ⟨w.heap.size,0,none⟩)) (w.alloc (.cells vs.toArray e)):=by
     intro e cs vs hg hc hsr;obtain ⟨hh,rfl⟩:=pZ hp hg;have Rr:=mq k (aaX hh);have hk:H[k]? =some (getObj H k):=dt (fun e=>by rw [e] at hh;cases hh);have cI:k < H.length:=(List.getElem?_eq_some_iff.1 hk).1;obtain ⟨n,hG⟩:=Qs cfg G hM hk hh (fun ob dN hm=>Rr (.inr ⟨ob,dN,hm⟩)) e hc (fun hm=>Rr (hsr k hm));refine ⟨env.set k (kY w n),fun q hq _ ht=>Env.aD _ _ (fun e=>ht (by subst e;exact aaX hh)),by simp,?_,hG,(gR.refl M w).alloc _⟩;simp only [List.length_set];exact ⟨cI,by rw [Env.aU,ia]⟩
    unfold fJ at hn;unfold execOp;unfold iB at h
    cases ho:o.op with
    | alloc e=>
      simp only [ho] at h ⊢;split at h
      ·rename_i cs hz;unfold zeroCells at hz
       cases hi:cfg.P.info? e with
       | none=>simp [hi] at hz
       | some i=>
         cases rv:i.zero with
         | none=>simp [hi,rv] at hz
         | some z=>
           simp only [hi,rv,Option.bind_some,Option.some.injEq] at hz;subst hz;have hA:=fin e _ z.cells.toList h (c8 z) (fun q hq=>by rw [iT] at hq;cases hq)
           have cW:(Instr.alloc e true (.tuple #[])).run cfg.P w= .ok (.pointer (some ⟨w.heap.size,0,none⟩)) (w.alloc (.cells z.cells e)):=by
            simp [Instr.alloc,zeroValue,typeInfo,hi,rv,newVar,newRow]
           simp only [Sem.run_bind,cW,Result.andThen_ok,Sem.run_pure];rw [Array.toArray_toList] at hA;exact hA
      ·exact h.elim
    | box e x=>
      simp only [ho] at h ⊢;split at h
      ·rename_i h1;have hA:=fin e _ (ρ x).cells.toList h (mf (hρ x) h1) (fun q hq=>pQ hq)
       have cW:(Instr.box e (ρ x)).run cfg.P w= .ok (.pointer (some ⟨w.heap.size,0,none⟩)) (w.alloc (.cells (ρ x).cells e)):=by
        simp [Instr.box,newVar,newRow]
       simp only [Sem.run_bind,cW,Result.andThen_ok,Sem.run_pure];rw [Array.toArray_toList] at hA;exact hA
      ·exact h.elim
    | _=>rw [ho] at hn;cases hn
 ·exact iL.mono (fun _ _ h=>h.two) (ow cfg hS (fun h=>absurd h hn) h G hM ρ hρ)
end
end Sym
end Go.Proofs.YtcjagpfbhnmggaaGreatDoor
