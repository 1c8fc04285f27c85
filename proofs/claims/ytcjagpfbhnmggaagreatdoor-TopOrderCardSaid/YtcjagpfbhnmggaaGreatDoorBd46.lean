/- Parts of the proof. -/
import Derived.Test.YtcjagpfbhnmggaaGreatDoorBd45
import Derived.SizedLaws
import Derived.Below
import Derived.Carry
import Derived.Handed
import Derived.LaidMore
import Derived.LaidHandle
import Derived.Lib.LaidTab
namespace Go.Proofs.YtcjagpfbhnmggaaGreatDoor
namespace Sym
open Go.ChangeShapes Go.WideShapes Go.ChangeAt Go.RowKit
section
variable {cod:Nat→aO} {P:Program}
noncomputable def av.aa2:av cod→Bool
 | .aB _ _=>true
 | _=>false
noncomputable def hv0:HV:=⟨0,0,0,.tuple #[],[]⟩
noncomputable def Br (xs:List HV):Env:=fun h=>xs.getD h hv0
theorem UY {g:FuncId} {s:aH cod} (hs:Sound P cod g s) {args:List SV} {H:Heap cod} (xs:List HV) {vs:List Value} {w:World} (hg:(s args H).ah (.c (.bool true),[])) (oo:H.all av.aa2=true)
 (kV:F2 (fun (o:av cod) x=>bH (Br xs) H.length x w (gT w) o) H xs) (aJ:F2 (aS (Br xs) H.length) args vs) (hT:pN w (gT w):=by exact fun _ h=>by cases h):Calls P g vs.toArray w fun e w'=>e= .returned (.bool true)∧Below w.heap.size w w':=by
 have gF:H.all (fun o=>!o.wr)=true:=List.all_eq_true.2 fun o ho=>by
  have:=List.all_eq_true.1 oo o ho;cases o<;>simp_all [av.aa2,av.wr]
 have G:Good (Br xs) H w (gT w):=by
  refine ⟨fun h o ho=>?_,fun h h' o o' b _ ho _ hw _=>?_,hT⟩
  ·have key:∀(H':Heap cod) (xs':List HV) (h:Nat) (o:av cod),F2 (fun (o:av cod) x=>bH (Br xs) H.length x w (gT w) o) H' xs'→H'[h]? =some o→bH (Br xs) H.length (xs'.getD h hv0) w (gT w) o:=by
    intro H' xs' h o hf
    induction hf generalizing h with
    | nil=>intro h1;simp at h1
    | cons h1 _ ih=>
      intro h2
      cases h with
      | zero=>
        simp only [List.getElem?_cons_zero,Option.some.injEq] at h2;subst h2
        exact h1
      | succ h=>
        simp only [List.getElem?_cons_succ] at h2;simpa using ih h h2
   exact key H xs h o kV ho
  ·have:=List.all_eq_true.1 gF o (List.mem_of_getElem? ho);rw [hw] at this;cases this
 refine (hs.calls args H (Br xs) w vs (.c (.bool true)) [] gF G aJ hg).mono ?_;rintro e w' ⟨v,aK,rfl,_,hv,_,hb⟩;have Nr:v= .bool true:=hv;subst Nr;exact ⟨rfl,hb.below⟩
noncomputable def Uz (size:Nat):Option Addr→HV
 | some a=>⟨a.block,a.off,size,.tuple #[],[]⟩
 | none=>⟨0,0,size,.tuple #[],[]⟩
theorem Y6 {env:Env} {N t:Nat} {M:Nat→Prop} {w:World} {A:Option Addr} {n:Nat} {l:List (cod t).α} (hr:Reads w w.heap.size (cod t).size A n (aN (cod t) l)) (hl:l.length=n):bH env N (Uz (cod t).size A) w M (.aB t l):=by
 obtain ⟨_,h2⟩:=hr;have hes:(Uz (cod t).size A).fE=(cod t).size:=by cases A<;>rfl
 refine ⟨hes,?_,fun bP=>?_⟩
 ·intro j u hu;rcases Nat.eq_zero_or_pos n with h | h
  ·rw [h] at hl;rw [List.length_eq_zero_iff.1 hl] at hu;simp [aN] at hu
  ·obtain ⟨b,off,rfl,_,hc⟩:=h2 h;exact hc j u hu
 ·obtain ⟨b,off,rfl,hb,_⟩:=h2 (by
   have:=List.length_pos_iff.2 bP;omega)
  exact hb
theorem Z8 {env:Env} {N k t:Nat} {w:World} {A:Option Addr} {n c:Nat} {l:List (cod t).α} (he:env k=Uz (cod t).size A) (hk:k < N) (hr:Reads w w.heap.size (cod t).size A n (aN (cod t) l)) (hc:n≤c) (hm:c≤maxLen):aS env N (.c (.ai k 0 n false)) (.slice A n c):=by
 refine ⟨hk,A,c,rfl,hc,hm,by simp,fun hn=>?_⟩;obtain ⟨b,off,rfl,_⟩:=hr.2 hn;rw [he];simp [Uz,HV.addr]
theorem Xl {env:Env} {N:Nat} (n:Int):aS env N (.c (.int .i64 n)) (.int .i64 n):=rfl
end
end Sym
namespace Sym
open Go.ChangeShapes Go.WideShapes Go.ChangeAt Go.RowKit
section
variable {cod:Nat→aO} {H:Type} {enc:TypeId×Value→H} {P:Program} {w:World} {base:Nat} {spare:Nat→Bool} {held:Bool}
noncomputable def UW (P:Program) (t:TypeId):Option Nat:=
 match P.underlying t with
 | some (.int .i64)=>some 0
 | some .bool=>some 1
 | some .string=>some 2
 | _=>none
noncomputable def DH (P:Program):List TypeId→Option (List Nat)
 | []=>some []
 | t::l=>match UW P t,DH P l with
   | some k,some ks=>some (k::ks)
   | _,_=>none
noncomputable def BF:Nat→Cell→Prop
 | 0,c=>∃n,c= .int .i64 n∧ae n
 | 1,c=>∃b,c= .bool b
 | 2,c=>∃s,c= .str s∧s.length≤maxLen
 | _,_=>False
theorem Va {t:TypeId} {k f:Nat} {v:Value} {y:DataW H×List MemPlace} (hk:UW P t=some k) (h:DataW.trod enc P w base spare held f t [v]=some y):∃c,BF k c∧v=c.val:=by
 unfold UW at hk;split at hk
 ·rename_i ht;cases hk;obtain ⟨n,q,_,wf0⟩:=DataW.trod_int ht h;simp at q;subst q;exact ⟨_,⟨n,rfl,wf_i64 wf0⟩,rfl⟩
 ·rename_i ht;cases hk;obtain ⟨b,q,_⟩:=DataW.trod_bool ht h;simp at q;subst q;exact ⟨_,⟨b,rfl⟩,rfl⟩
 ·rename_i ht;cases hk;obtain ⟨s,q,_,hs⟩:=DataW.trod_string ht h;simp at q;subst q;exact ⟨.str s.data.toList,⟨_,rfl,by rw [Array.length_toList];exact hs⟩,rfl⟩
 ·cases hk
theorem yw:∀(ls:List TypeId) {ks:List Nat} {cs:List Value},eS enc P w base spare held ls cs→DH P ls=some ks→∃cells,F2 BF ks cells∧cs=cells.map Cell.val
 | [],ks,cs,h,hk=>by
   cases hk
   match cs,h.1 with
   | [],_=>exact ⟨[],.nil,rfl⟩
 | t::ls,ks,cs,h,hk=>by
   unfold DH at hk;split at hk
   ·rename_i k ks' e1 e2;cases hk;obtain ⟨hl,h⟩:=h
    match cs,hl with
    | c0::cs,hl=>
      obtain ⟨v,f,y,hv,hy⟩:=h 0 t (by simp);simp at hv;subst hv;obtain ⟨c,h1,h2⟩:=Va e1 hy
      obtain ⟨cells,h3,h4⟩:=yw ls (cs:=cs) ⟨by simpa using hl,fun i t' hi=>by
       have:=h (i+1) t' (by simpa using hi);simpa using this⟩ e2
      exact ⟨c::cells,.cons h1 h3,by rw [h2,h4];rfl⟩
   ·cases hk
theorem kc0 {ks:List Nat} {cs:List Cell} (h:F2 BF (0::ks) cs):∃n r,cs= .int .i64 n::r∧ae n∧F2 BF ks r:=by
 cases h with
 | cons h t=>
   obtain ⟨n,rfl,hn⟩:=h;exact ⟨n,_,rfl,hn,t⟩
theorem kcn {cs:List Cell} (h:F2 BF [] cs):cs=[]:=by
 cases h;rfl
noncomputable def rz (P:Program) (t:TypeId):List TypeId:=(leaves P 9 t).getD []
theorem UJ (u:Nat) {t:TypeId} (e:TypeId) {ks:List Nat} {v:Value} {x:DataW H} {p:List MemPlace} {r:Reach} {b0:Nat} (ht:P.underlying t=some (.slice e)) (hl:leaves P 9 e=some (rz P e)) (hk:DH P (rz P e)=some ks) (hc:P.cellsOf e=(rz P e).length)
 (hz:(rz P e).length=(cod u).size) (qo:∀cells,F2 BF ks cells→(cod u).ok cells=true)
 (hv:Value.okWide P w r b0 t v) (h:DataW.Trod enc P w 0 (fun _=>true) true t v x p):
 ∃(A:Option Addr) (c:Nat) (l:List (cod u).α),v= .slice A l.length c∧l.length≤c∧c≤maxLen∧Reads w w.heap.size (cod u).size A l.length (aN (cod u) l):=by
 have hf:∀a:(cod u).α,(((cod u).enc a).map Cell.val).length=(rz P e).length:=fun a=>by rw [List.length_map,(cod u).size_eq,hz]
 obtain ⟨A,n,c,l,h1,h2,h3,h4,h5,_,_⟩:=Aw (fun a=>((cod u).enc a).map Cell.val) (fun _=>True) 9 ht hl hc (by rw [hz];exact (cod u).pos) hf (fun cs pX=>by
  obtain ⟨cells,g1,g2⟩:=yw _ pX hk;exact ⟨(cod u).dec cells,by rw [(cod u).ck _ (qo _ g1),g2],trivial⟩) hv h
 subst h4;refine ⟨A,c,l,h1,h2,h3,?_⟩;rw [hz] at h5;unfold aN;rw [List.map_flatMap];exact h5
end
end Sym
namespace Oq
open Go.ChangeShapes Go.WideShapes Go.ChangeAt Go.RowKit
section
variable {H:Type} {enc:TypeId×Value→H} {P:Program}
theorem pu (hl:laidOutB P=true) {W W':World} (hb:Below W.heap.size W W'):
 ∀(ts:List TypeId) (vs:List Value) (ds:List (DataW H)) (ps:List MemPlace),(∀t∈ts,P.readableRec t=true∧t < P.types.size)→
  DataW.TrodAll enc P W 0 (fun _=>true) true ts vs ds ps→(∀x∈ps,x.block < W.heap.size)→
  DataW.TrodAll enc P W' 0 (fun b=>decide (b < W.heap.size)) true ts vs ds ps
 | [],[],[],_,_,h,_=>h
 | [],[],_::_,_,_,h,_=>h.elim
 | [],_::_,_,_,_,h,_=>h.elim
 | _::_,[],_,_,_,h,_=>h.elim
 | _::_,_::_,[],_,_,h,_=>h.elim
 | t::ts,v::vs,d::ds,ps,hr,h,cI=>by
   obtain ⟨p,q,h1,h2,rfl⟩:=h;have ht:=hr t (List.mem_cons_self ..)
   exact ⟨p,q,Below.trod hl ht.1 ht.2 h1 hb (fun x hx=>cI x (List.mem_append.2 (.inl hx))),
    pu hl hb ts vs ds q (fun t h=>hr t (List.mem_cons_of_mem _ h)) h2 (fun x hx=>cI x (List.mem_append.2 (.inr hx))),rfl⟩
theorem nR:∀(ts:List TypeId) (vs:List Value) (ds:List (DataW H)) (ps:List MemPlace) {W:World} {b:Nat} {sp:Nat→Bool} {hd:Bool},DataW.TrodAll enc P W b sp hd ts vs ds ps→ds.length=ts.length∧vs.length=ts.length
 | [],[],[],_,_,_,_,_,_=>⟨rfl,rfl⟩
 | [],[],_::_,_,_,_,_,_,h=>h.elim
 | [],_::_,_,_,_,_,_,_,h=>h.elim
 | _::_,[],_,_,_,_,_,_,h=>h.elim
 | _::_,_::_,[],_,_,_,_,_,h=>h.elim
 | _::ts,_::vs,_::ds,_,_,_,_,_,h=>by
   obtain ⟨p,q,_,h2,rfl⟩:=h;have:=nR ts vs ds q h2;simp [this]
structure ad9 (enc:TypeId×Value→H) (P:Program) (fn:Func) (W:World) (args:Array Value) (ds:List (DataW H)) (p:List MemPlace):Prop where
 val:∀(j:Nat) t v,fn.params[j]? =some t→args[j]? =some v→∃base,Value.okWide P W .any base t v
 trod:DataW.TrodAll enc P W 0 (fun _=>true) true fn.params.toList args.toList ds p
 lt:∀x∈p,x.block < W.heap.size
 reach:(DataW.weightsEach P fn.params.toList ds).all (·≤reachBytes)=true
 free:W.noneFrozen p
theorem ain {C:Checked} {os:Os} {f:FuncId} {fn:Func} {s:ChangeSpec} {tb:TypeId} {X:World→Prop} (hX:∀w w':World,w.heap=w'.heap→X w→X w') (own:ownKnob C.prog.godebug=none) (started:os.Started) (adb:C.prog.inits.idxOf? f=none) (hfn:C.prog.funcs[f]? =some fn)
 (witness:∃(w:World) (tape:Tape) (i:Input),w.os=os∧(w.forCall tape i).Shaped C.prog∧i.vars=[]∧Input.okWide C.prog (w.forCall tape i) .any w.heap.size f i∧
   ((s.pre enc C.prog fn [] false (w.forCall tape i).memory i.args∧X (w.forCall tape i).memory)∧sizedMet enc C.prog fn (OpenSpec.ofChange s) false (w.forCall tape i).memory i.args)∧({}:Assume).holds C.prog (lone (Frame.enter C.prog f i.args .normal) [] (w.forCall tape i)))
 (UB:s.vars=[]) (acK:fn.resultTypes=#[tb]) (htb:C.prog.underlying tb=some .bool) (hl:laidOutB C.prog=true)
 (hrb:(fn.params.toList.all fun t=>C.prog.readableRec t&&decide (t < C.prog.types.size))=true)
 (afg:∀ds:List (DataW H),ds.length=fn.params.toList.length→s.fn H ds={results:=[.lit (.bool true)],args:=ds,vars:=[]})
 (walk:∀(W:World) (args:Array Value) (ds:List (DataW H)) (p:List MemPlace),X W→ad9 enc C.prog fn W args ds p→
   Calls C.prog f args W fun e W'=>e= .returned (.bool true)∧Below W.heap.size W W'):
 ReturnsInHanded {} C os f .any (fun w args=>(s.pre enc C.prog fn [] false w args∧X w)∧sizedMet enc C.prog fn (OpenSpec.ofChange s) false w args) (s.post enc C.prog fn false true false false):=by
 have dn:∀t∈fn.params.toList,C.prog.readableRec t=true∧t < C.prog.types.size:=fun t ht=>by
  have:=List.all_eq_true.1 hrb t ht;simpa using this
 refine returnsInHanded_of_change_and (X:=fun w _=>X w) (fun w w' _ h hx=>hX w w' h hx) own started adb hfn witness ?_;intro W base args ds gs before e9 hW aj9 kt hL _;have cI:∀x∈before,x.block < W.heap.size:=fun x hx=>hW.lt x hx;have hW':=hW;obtain ⟨p,q,hA,hV,rfl,hfz,hnd⟩:=hW;rw [UB] at hV;obtain ⟨rfl,rfl⟩:=trodVars_none hV;simp only [List.append_nil] at cI hfz;have hvt:s.plain.varTypes C.prog=[]:=by simp [ChangeSpec.plain,DataSpec.varTypes,UB]
 rw [hvt] at kt;simp only [List.append_nil] at kt;refine (walk W args ds p hL ⟨fun j t v hj hv=>⟨base,e9 j t v hj hv⟩,hA,cI,kt,hfz⟩).mono fun e W' ⟨he,hb⟩=>⟨_,he,?_⟩;have YR:=(nR _ _ _ _ hA).1;have Uw:=afg ds YR;refine ⟨ds,[],_,[],p,[],hW',?_,?_,?_,hb.frame _,fun h=>by cases h⟩
 ·rw [List.append_nil,Uw,acK];exact trodAll_cons_mk (shut_bool htb _) trodAll_mk0
 ·rw [List.append_nil,Uw];exact pu hl hb _ _ _ _ dn hA cI
 ·rw [List.append_nil,Uw,UB];rfl
theorem PI {x:String×DataW Unit} {r:List (String×DataW Unit)} {w:World} (h:laidMet P (x::r) w):laidMet P r w:=by
 obtain ⟨n,d⟩:=x;obtain ⟨ps,⟨g,t,cs,fuel,p,q,h1,h2,h3,h4,h5,rfl⟩,hn,hb⟩:=h;exact ⟨q,h5,(List.nodup_append.1 hn).2.1,fun b off hm=>hb b off (List.mem_append.2 (.inr hm))⟩
end
end Oq
end Go.Proofs.YtcjagpfbhnmggaaGreatDoor
