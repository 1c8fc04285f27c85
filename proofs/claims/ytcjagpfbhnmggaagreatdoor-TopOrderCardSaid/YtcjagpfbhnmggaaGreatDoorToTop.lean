/- skywaytop.TopOrder returns true at every input: the tied card, over the row that lists the library's tables. No condition beside those tables. -/
import Derived.Test.YtcjagpfbhnmggaaGreatDoorBd46
import Derived.Test.YtcjagpfbhnmggaaGreatDoorCards
import Derived.Test.YtcjagpfbhnmggaaGreatDoorTie
import Derived.SevenTiedAt
import Derived.JoinedOf
import Derived.LaidLaws
namespace Go.Proofs.YtcjagpfbhnmggaaGreatDoor
namespace TopOrder
open Go.ChangeShapes Go.WideShapes Go.ChangeAt Go.RowKit Sym
open Go.ChangeMaps (open_string)
theorem Mx {H:Type} {enc:TypeId×Value→H} {P:Program} {w:World} {base:Nat} {spare:Nat→Bool} {held:Bool} {fuel:Nat} {t:TypeId} {cs:List Value} {x:DataW H×List MemPlace} {k:FloatKind} (ht:P.underlying t=some (.float k)) (h:DataW.trod enc P w base spare held fuel t cs=some x):∃b,cs=[.float k b]∧x=(.lit (.float k b),[]):=by
 cases fuel with
 | zero=>simp [DataW.trod] at h
 | succ n=>
   unfold DataW.trod at h;rw [ht] at h;split at h<;>simp_all
noncomputable def TQ {H:Type} (zs:List Nat):DataW H:=.agg (zs.map fun z=>.lit (.float .f64 z))
theorem Ai {H:Type} {enc:TypeId×Value→H} {P:Program} {w:World} {base:Nat} {sp:Nat→Bool} {held:Bool} {fuel:Nat} {t e:TypeId} {n:Nat} {cs:List Value} {zs:List Nat} {p:List MemPlace}
 (ht:P.underlying t=some (.array n e)) (he:P.underlying e=some (.float .f64)) (pe:P.cellsOf e=1)
 (h:DataW.trod enc P w base sp held fuel t cs=some (TQ zs,p)) (pX:cs.length=n):cs=zs.map fun z=>Value.float .f64 z:=by
 cases fuel with
 | zero=>simp [DataW.trod] at h
 | succ fuel=>
   simp only [DataW.trod,ht,pe,Nat.mul_one] at h;split at h
   ·obtain ⟨xs,hm,hx⟩:=Option.map_eq_some_iff.1 h
    have iP:xs.map (·.1)=zs.map fun z=>(DataW.lit (.float .f64 z):DataW H):=by
     have:=congrArg Prod.fst hx;simpa [TQ] using this
    have hxl:xs.length=n:=by simpa using Lib.mapM_length hm
    have hzl:zs.length=n:=by
     have:=congrArg List.length iP;simp at this;omega
    apply List.ext_getElem?;intro i;by_cases hi:i < n
    ·obtain ⟨b,hb,hf⟩:=Lib.mapM_at hm i i (by simp [hi]);obtain ⟨z,hc,rfl⟩:=Mx he hf
     have h1:cs[i]? =some (.float .f64 z):=by
      have:=congrArg (·[0]?) hc;simpa [List.getElem?_take,List.getElem?_drop] using this
     have h2:(xs.map (·.1))[i]? =some (DataW.lit (.float .f64 z):DataW H):=by simp [hb]
     rw [iP] at h2;simp only [List.getElem?_map,Option.map_eq_some_iff,DataW.lit.injEq,Lit.float.injEq,true_and] at h2;obtain ⟨z',hz',rfl⟩:=h2;simp [h1,hz']
    ·rw [List.getElem?_eq_none (by omega),List.getElem?_eq_none (by simp;omega)]
   ·cases h
theorem GH {H:Type} {enc:TypeId×Value→H} {P:Program} {w:World} {base:Nat} {sp:Nat→Bool} {held:Bool} {fuel:Nat} {t e:TypeId} {n:Nat} {cs:List Value} {x:DataW H×List MemPlace}
 (ht:P.underlying t=some (.array n e)) (YQ:P.cellsOf t=n) (h:DataW.trod enc P w base sp held fuel t cs=some x):cs.length=n:=by
 cases fuel with
 | zero=>simp [DataW.trod] at h
 | succ fuel=>
   simp only [DataW.trod,ht] at h;split at h
   ·rename_i hl;simp_all
   ·cases h
theorem rX {W:World} {name:String} {zs:List Nat} {rest:List (String×DataW Unit)} {g:Nat} {t e:TypeId} {n:Nat} (hg:Tryz.prog.globalNamed name=some g) (Np:(Tryz.prog.globals[g]?).map (·.type)=some t) (ht:Tryz.prog.underlying t=some (.array n e)) (he:Tryz.prog.underlying e=some (.float .f64)) (pe:Tryz.prog.cellsOf e=1) (YQ:Tryz.prog.cellsOf t=n)
 (h:laidMet Tryz.prog ((name,TQ zs)::rest) W):W.var? Tryz.prog name=some (zs.map fun z=>Value.float .f64 z).toArray:=by
 obtain ⟨ps,⟨g',t',cs,fuel,p,q,hg',ht',aid,hd,_,_⟩,_⟩:=h;obtain rfl:=Option.some.inj (hg.symm.trans hg');obtain rfl:=Option.some.inj (Np.symm.trans ht');rw [aid,←Ai ht he pe hd (GH ht YQ hd)]
noncomputable def afR:List Nat:=[4460209587652500685,13716528389658582877,4523617212962785441,13774824197404483331,4575957461383575504,13818544856648471880]
noncomputable def aem:List Nat:=[13666448263388469915,4477121864728985349,13732177093698800582,4537941361668146421,13787419979223748497,4586165620538955083]
theorem W4 {W:World} (h:laidMetH Tryz.prog Rows.topOrderRow.laid W):pN W (gT W):=by
 rw [MakeChecks.laidMetH_plain _ _ _ (by kernel_rfl)] at h;have h1:W.var? Tryz.prog "math._sin" =some (afR.map fun z=>Value.float .f64 z).toArray:=rX (g:=2) (t:=203) (e:=140) (n:=6) (zs:=afR) (by kernel_rfl) (by kernel_rfl) Tryz.underlying203 Tryz.underlying140 (by kernel_rfl) (by kernel_rfl) h;have h2:W.var? Tryz.prog "math._cos" =some (aem.map fun z=>Value.float .f64 z).toArray:=rX (g:=1) (t:=203) (e:=140) (n:=6) (zs:=aem) (by kernel_rfl) (by kernel_rfl) Tryz.underlying203 Tryz.underlying140 (by kernel_rfl) (by kernel_rfl) (Oq.PI h);have g1:Tryz.prog.globalNamed "math._cos" =some 1:=by kernel_rfl
 have g2:Tryz.prog.globalNamed "math._sin" =some 2:=by kernel_rfl
 have key:∀(g:Nat) (name:String) (cs:Array Value) (Q:Array Value→Prop),Q cs→Tryz.prog.globalNamed name=some g→W.var? Tryz.prog name=some cs→(∃cs ty tg,W.heap[g]? =some (.cells cs ty tg)∧Q cs)∧¬gT W g:=by
  intro g name cs Q hQ hg hv;unfold World.var? at hv;rw [hg] at hv;simp only [Option.bind_some] at hv;split at hv
  ·rename_i uK ty tg hc;simp only [Option.some.injEq] at hv;subst hv;refine ⟨⟨_,ty,tg,hc,hQ⟩,fun hn=>?_⟩;have:=(Array.getElem?_eq_some_iff.1 hc).1;unfold gT at hn;omega
  ·cases hv
 intro p hp;simp only [Rb,W5,List.map_cons,List.map_nil,List.mem_cons,List.not_mem_nil,or_false] at hp;rcases hp with rfl | rfl
 ·exact key 1 _ _ _ rfl g1 h2
 ·exact key 2 _ _ _ rfl g2 h1
set_option maxRecDepth 100000 in
set_option maxHeartbeats 4000000 in
theorem afZ {H:Type} {enc:TypeId×Value→H} (W:World) (args:Array Value) (ds:List (DataW H)) (p:List MemPlace) (hL:laidMetH Tryz.prog Rows.topOrderRow.laid W) (h:Oq.ad9 enc Tryz.prog Tryz.f3 W args ds p):
 Calls Tryz.prog 3 args W fun e W'=>e= .returned (.bool true)∧Below W.heap.size W W':=by
 obtain ⟨e9,hA,cI,ah7,Uh⟩:=h;rw [Tryz.params3] at hA e9;obtain ⟨v0,vs0,d0,ds0,p0,q0,aJ,rfl,rfl,h0,r0⟩:=trodAll_cons hA;obtain ⟨v1,vs1,d1,ds1,p1,q1,rfl,rfl,rfl,h1,r1⟩:=trodAll_cons r0;obtain ⟨rfl,rfl,rfl⟩:=trodAll_nil r1;obtain rfl:args=#[v0,v1]:=by cases args;simp_all
 obtain ⟨_,b0⟩:=e9 0 22 v0 rfl rfl;obtain ⟨_,b1⟩:=e9 1 3 v1 rfl rfl
 obtain ⟨A0,c0,l0,rfl,u0,m0,R0⟩:=UJ (cod:=cod) 0 3 (ks:=[0]) (Tryz.underlying22) (by kernel_rfl) (by kernel_rfl) (by kernel_rfl) (by kernel_rfl) (by
  intro cells h;obtain ⟨_,_,rfl,_,h⟩:=kc0 h;obtain rfl:=kcn h;exact rfl) b0 h0
 obtain ⟨a1,rfl,rfl,rfl,i1⟩:=open_int Tryz.underlying3 b1 h1;refine UY PK (args:=[.c (.ai 0 0 l0.length false),.c (.int .i64 a1)]) (H:=[.aB 0 l0]) [Uz (cod 0).size A0] ?_ rfl (.cons (Y6 R0 rfl) .nil) (.cons (Z8 rfl (by simp) R0 u0 m0) (.cons (Xl _) .nil)) (W4 hL);exact ⟨⟨rfl,rfl⟩,rfl⟩
noncomputable def aa5 (os:Os):World:=World.doorLaid Tryz.prog 4000 os
theorem PH (os:Os) (args:Array Value):laidMetH Tryz.prog Rows.topOrderRow.laid ((aa5 os).forCall (fun _ _=>0) ⟨#[],args,[]⟩).memory:=
 laidMetH_of_parts3 (fuel:=10) (laidMet_of_run' 10 (by kernel_rfl) (by kernel_rfl)) (by kernel_rfl) (by kernel_rfl)
set_option maxRecDepth 100000 in
theorem lifted (os:Os) (started:os.Started) (H:Type) (enc:TypeId×Value→H):
 ReturnsInHanded {} Tryz.checked os 3 .any (fun w args=>(Rows.topOrderSpec.pre enc Tryz.prog Tryz.f3 [] false w args∧laidMetH Tryz.prog Rows.topOrderRow.laid w)∧sizedMet enc Tryz.prog Tryz.f3 (OpenSpec.ofChange Rows.topOrderSpec) false w args) (Rows.topOrderSpec.post enc Tryz.prog Tryz.f3 false true false false):=
 Oq.ain (C:=Tryz.checked) (X:=fun w=>laidMetH Tryz.prog Rows.topOrderRow.laid w) (tb:=4) (fun _ _ hh h=>h.of_heap hh) (by kernel_rfl) started (by kernel_rfl) Tryz.func3
  (ChangeSpec.witness_shaped (enc:=enc) (C:=Tryz.checked) (os:=os) (X:=fun w _=>laidMetH Tryz.prog Rows.topOrderRow.laid w) false (aa5 os) #[.slice none 0 0,.int .i64 0] 8 rfl (World.shaped_of_RefB (by kernel_rfl) (by kernel_rfl)) (by kernel_rfl) (by kernel_rfl) (by kernel_rfl) (PH os _))
  rfl rfl Tryz.underlying4 (by kernel_rfl) (by kernel_rfl)
  (by intro ds YR;rw [Tryz.params3] at YR;simp only [List.length_cons,List.length_nil] at YR;match ds,YR with | [_,_],_=>rfl)
  (fun W args ds p hL h=>afZ W args ds p hL h)
theorem over:Rows.topOrderRow.holds Tryz.pinned (OpenSpec.ofChange Rows.topOrderSpec):=
 OpenClaim.holds_of_wide 3 Tryz.f3 rfl rfl rfl rfl rfl rfl rfl ⟨rfl,rfl,rfl,rfl,rfl⟩ rfl rfl rfl rfl rfl (by kernel_rfl) Tryz.func3 (by kernel_rfl)
  (of_decide_eq_true (by kernel_rfl)) (by unfold Func.isWrapper;first | (rw [if_pos (by decide+kernel)];kernel_rfl) | (rw [if_neg (by decide+kernel)];exact ⟨rfl,rfl⟩))
  (fun os started H enc _=>lifted os started H enc)
theorem plain (f:FuncId) (fn:Func) (hf:Tryz.pinned.checked.prog.funcNamed Tryz.f3.name =some f) (hfn:Tryz.pinned.checked.prog.funcs[f]? =some fn):
 false=Tryz.pinned.checked.prog.looks []∧∀(j:Nat) t,fn.params[j]? =some t→Tryz.pinned.checked.prog.wantsStandIn t=false:=by
 obtain rfl:f=3:=Option.some.inj ((show Tryz.prog.funcNamed Tryz.f3.name =some 3 by kernel_rfl).symm.trans hf) |>.symm;obtain rfl:fn=Tryz.f3:=(Option.some.inj (Tryz.func3.symm.trans hfn)).symm;refine ⟨by kernel_rfl,fun j t ht=>?_⟩;rw [Tryz.params3] at ht;have ht':t=22∨t=3:=by simpa using Array.mem_of_getElem? ht
 rcases ht' with rfl | rfl
 ·exact (show Tryz.prog.wantsStandIn 22=false by kernel_rfl)
 ·exact (show Tryz.prog.wantsStandIn 3=false by kernel_rfl)
theorem proved:Rows.TopOrderCardSaid:=
 Claim7.holds_tied_plain_at .later [] _ _ _ _ over (fun _ h=>by cases h) (by kernel_rfl) (fun _ h=>by cases h) topOrder_row_tie rfl ⟨rfl,rfl⟩ (by kernel_rfl) rfl plain (by kernel_rfl)
#print axioms proved
end TopOrder
end Go.Proofs.YtcjagpfbhnmggaaGreatDoor
