/- Parts of the proof. -/
import Derived.Test.YtcjagpfbhnmggaaGreatDoorBd42
namespace Go.Proofs.YtcjagpfbhnmggaaGreatDoor
section
open Sym Go.RowKit
noncomputable section
set_option maxRecDepth 100000
set_option maxHeartbeats 4000000
noncomputable def Ln:aH cod:=fun args H=>match args,H with
 | [.agg cs,.agg ds],[]=>(match c6.ok cs with | true=>(match c6.ok ds with | true=>.aa (F.Vz (c6.dec cs) (c6.dec ds)) (.ret (.aP [.agg (c6.enc (F.rpl (c6.dec cs) (c6.dec ds))),.c (.int .i64 0)],[])) | false=>.fail) | false=>.fail)
 | _,_=>.fail
theorem KQ:Sound Tryz.prog cod 18 Ln:=u7.sub fun args H r hg=>by
 unfold Ln at hg;split at hg
 ·rename_i cs ds;split at hg
  ·rename_i h0;split at hg
   ·rename_i h1;have e0:=c6.ck _ h0;have e1:=c6.ck _ h1;rw [←e0,←e1];generalize c6.dec cs=s at hg ⊢;generalize c6.dec ds=p at hg ⊢;obtain ⟨⟨a1,a2,a3⟩,hg⟩:=hg;exact ⟨⟨a1,a2,a3⟩,hg⟩
   ·exact hg.elim
  ·exact hg.elim
 ·exact hg.elim
noncomputable def Sz:aQ cod:=(18,.p Ln)::AP
theorem Ol:cv Tryz.prog cod Sz:=.cons KQ CE
noncomputable def abj:aH cod:=Eu
theorem P5:Sound Tryz.prog cod 20 abj:=GV
noncomputable def Sq:aQ cod:=(20,.p abj)::Sz
noncomputable def iK:aT cod:=c9 Sq
theorem fD:cv Tryz.prog cod Sq:=.cons P5 Ol
noncomputable def Q14:Array Oper:=ZE (bu Tryz.f9 14)
noncomputable def eF:bA:=[(3,[2,1,19,0,20,21,8],4),(7,[2,10,25,1,19,0,20,21,8,26,27,11],6),(100014,[2,1,19,0,20,21,11,8],6),(100017,[16,0,17],5)]
noncomputable def pc:bA:=[(3,[2,1,19,0,20,21,8],4),(7,[2,10,25,1,19,0,20,21,8,26,27,11],6),(100014,[2,1,19,0,20,21,11,8],6)]
theorem ZZ (l:List (Int×Int×Int×Int×Int×Int)) (aA:Bool) (fs:List (Int×Int×Int×Int×Int×Int)) (cy:Bool) (time:Int):aI iK eF Tryz.f9.results.toList 2 400 [.code (aj Tryz.f9)] ⟨ay Tryz.f9 [.c (.ai 0 0 l.length aA),.c (.ai 1 0 fs.length cy),.c (.int .i64 time)],([.aB 2 l,.aB 2 fs]:Heap cod)⟩=
 (let q0:=List.length l;
 .ret (.cut (cutAt Tryz.f9 3) ⟨bc 51 [(0,.c (.ai 0 0 q0 aA)),(0,.c (.ai 1 0 fs.length cy)),(0,.c (.int .i64 time)),(5,.c (.nil)),(10,.c (.ai 0 0 q0 aA)),(0,.c (.int .i64 (Int.ofNat q0))),(0,.c (.int .i64 0))],[.aB 2 l,.aB 2 fs,.own 2 [] 42]⟩)):=by kernel_rfl
noncomputable def ig (l:List (Int×Int×Int×Int×Int×Int)) (aA:Bool) (fs:List (Int×Int×Int×Int×Int×Int)) (cy:Bool) (time:Int) (LL:List (List (Int×Int×Int×Int×Int×Int))) (k:Int):St cod:=⟨bc 51 [(0,.c (.ai 0 0 l.length aA)),(0,.c (.ai 1 0 fs.length cy)),(0,.c (.int .i64 time)),(5,.c (.own 3 LL.length)),(10,.c (.ai 0 0 l.length aA)),(0,.c (.int .i64 (Int.ofNat l.length))),(0,.c (.int .i64 k))],([.aB 2 l,.aB 2 fs,.own 2 [] 42,.cj 2 LL [] [] 66 68]:Heap cod)⟩
theorem N1 (l:List (Int×Int×Int×Int×Int×Int)) (aA:Bool) (fs:List (Int×Int×Int×Int×Int×Int)) (cy:Bool) (time:Int) (LL:List (List (Int×Int×Int×Int×Int×Int))) (k:Int):aI iK eF Tryz.f9.results.toList 2 400 (cutAt Tryz.f9 3) (ig l aA fs cy time LL k)=
 (let q0:=List.getD l (0+Int.toNat k) (cod 2).d;
 let q1:=List.length l;
 let q2:=List.length fs;
 cond (decide (k < Int.ofNat q1)) (.aa (((0:Int)≤k∧k < Int.ofNat q1)) (.aa (0+Int.toNat k < List.length l) (.ret (.cut (cutAt Tryz.f9 7) ⟨bc 45 [(0,.c (.ai 0 0 q1 aA)),(0,.c (.ai 1 0 q2 cy)),(0,.c (.int .i64 time)),(5,.c (.own 3 LL.length)),(1,.c (.ptr 4 0 0)),(0,.c (.own 5 0)),(7,.c (.ai 0 0 q1 aA)),(0,.c (.int .i64 (Int.ofNat q1))),(0,.c (.int .i64 k)),(3,.c (.ai 1 0 q2 cy)),(0,.c (.int .i64 (Int.ofNat q2))),(0,.c (.int .i64 0))],[.aB 2 l,.aB 2 fs,.own 2 [] 42,.cj 2 (LL) [] [] 66 68,.aF [.int .i64 (q0.1),.int .i64 (q0.2.1),.int .i64 (q0.2.2.1),.int .i64 (q0.2.2.2.1),.int .i64 (q0.2.2.2.2.1),.int .i64 (q0.2.2.2.2.2)] 64,.own 2 [] 68]⟩)))) (.aa (((0=0∧List.length LL=List.length LL)∧F.Ih LL=0)) (.ret (.cut (bu Tryz.f9 17) ⟨bc 55 [(0,.c (.ai 0 0 q1 aA)),(15,.c (.ai 4 0 (F.vF LL).length false)),(0,.c (.int .i64 0))],[.aB 2 l,.aB 2 fs,.own 2 [] 42,.cj 2 (LL) [] [] 66 68,.own 2 (F.rB LL) 68]⟩)))):=by kernel_rfl
noncomputable def Cd (l:List (Int×Int×Int×Int×Int×Int)) (aA:Bool) (fs:List (Int×Int×Int×Int×Int×Int)) (cy:Bool) (time:Int) (LL:List (List (Int×Int×Int×Int×Int×Int))) (k:Int) (st:Int×Int×Int×Int×Int×Int) (fd:List (Int×Int×Int×Int×Int×Int)) (fn:Nat) (m:Int):St cod:=⟨bc 45 [(0,.c (.ai 0 0 l.length aA)),(0,.c (.ai 1 0 fs.length cy)),(0,.c (.int .i64 time)),(5,.c (.own 3 LL.length)),(1,.c (.ptr 4 0 0)),(0,.c (.own 5 fn)),(7,.c (.ai 0 0 l.length aA)),(0,.c (.int .i64 (Int.ofNat l.length))),(0,.c (.int .i64 k)),(3,.c (.ai 1 0 fs.length cy)),(0,.c (.int .i64 (Int.ofNat fs.length))),(0,.c (.int .i64 m))],([.aB 2 l,.aB 2 fs,.own 2 [] 42,.cj 2 LL [] [] 66 68,.aF [.int .i64 st.1,.int .i64 st.2.1,.int .i64 st.2.2.1,.int .i64 st.2.2.2.1,.int .i64 st.2.2.2.2.1,.int .i64 st.2.2.2.2.2] 64,.own 2 fd 68]:Heap cod)⟩
theorem N2 (l:List (Int×Int×Int×Int×Int×Int)) (aA:Bool) (fs:List (Int×Int×Int×Int×Int×Int)) (cy:Bool) (time:Int) (LL:List (List (Int×Int×Int×Int×Int×Int))) (k:Int) (st:Int×Int×Int×Int×Int×Int) (fd:List (Int×Int×Int×Int×Int×Int)) (fn:Nat) (m:Int):aI iK eF Tryz.f9.results.toList 2 400 (cutAt Tryz.f9 7) (Cd l aA fs cy time LL k st fd fn m)=
 (let q0:=List.getD fs (0+Int.toNat m) (cod 2).d;
 let q1:av cod:=.aF [.int .i64 st.1,.int .i64 st.2.1,.int .i64 st.2.2.1,.int .i64 st.2.2.2.1,.int .i64 st.2.2.2.2.1,.int .i64 st.2.2.2.2.2] 64;
 let q2:=List.length fs;
 let q3:=List.length l;
 cond (decide (m < Int.ofNat q2)) (.aa (((0:Int)≤m∧m < Int.ofNat q2)) (.aa (0+Int.toNat m < List.length fs) (.aa ((F.An q0∧((0:Int)≤time∧time≤20))) (.aa (F.Vz st (time,q0.1+q0.2.2.1*time,q0.2.1+q0.2.2.2.1*time,q0.2.2.2.2.1,q0.2.2.2.2.2,0)) (.aa (1=1) (.aa (fn+1≤1000000) (.aa (ae (m+1)) (.ret (.cut (cutAt Tryz.f9 7) ⟨bc 45 [(0,.c (.ai 0 0 q3 aA)),(0,.c (.ai 1 0 q2 cy)),(0,.c (.int .i64 time)),(5,.c (.own 3 LL.length)),(1,.c (.ptr 4 0 0)),(0,.c (.own 5 (fn+1))),(7,.c (.ai 0 0 q3 aA)),(0,.c (.int .i64 (Int.ofNat q3))),(0,.c (.int .i64 k)),(3,.c (.ai 1 0 q2 cy)),(0,.c (.int .i64 (Int.ofNat q2))),(0,.c (.int .i64 (m+1)))],[.aB 2 l,.aB 2 fs,.own 2 [] 42,.cj 2 (LL) [] [] 66 68,q1,.own 2 (fd++([F.rpl st (time,q0.1+q0.2.2.1*time,q0.2.1+q0.2.2.2.1*time,q0.2.2.2.2.1,q0.2.2.2.2.2,0)])) 68]⟩))))))))) (.ret (.cut (bu Tryz.f9 14) ⟨bc 51 [(0,.c (.ai 0 0 q3 aA)),(0,.c (.ai 1 0 q2 cy)),(0,.c (.int .i64 time)),(5,.c (.own 3 LL.length)),(2,.c (.own 5 (fn))),(7,.c (.ai 0 0 q3 aA)),(0,.c (.int .i64 (Int.ofNat q3))),(0,.c (.int .i64 k))],[.aB 2 l,.aB 2 fs,.own 2 [] 42,.cj 2 (LL) [] [] 66 68,q1,.own 2 fd 68]⟩))):=by kernel_rfl
noncomputable def vq (l:List (Int×Int×Int×Int×Int×Int)) (aA:Bool) (fs:List (Int×Int×Int×Int×Int×Int)) (cy:Bool) (time:Int) (LL:List (List (Int×Int×Int×Int×Int×Int))) (k:Int) (st:Int×Int×Int×Int×Int×Int) (fd:List (Int×Int×Int×Int×Int×Int)) (fn:Nat):St cod:=⟨bc 51 [(0,.c (.ai 0 0 l.length aA)),(0,.c (.ai 1 0 fs.length cy)),(0,.c (.int .i64 time)),(5,.c (.own 3 LL.length)),(2,.c (.own 5 (fn))),(7,.c (.ai 0 0 l.length aA)),(0,.c (.int .i64 (Int.ofNat l.length))),(0,.c (.int .i64 k))],[.aB 2 l,.aB 2 fs,.own 2 [] 42,.cj 2 (LL) [] [] 66 68,.aF [.int .i64 st.1,.int .i64 st.2.1,.int .i64 st.2.2.1,.int .i64 st.2.2.2.1,.int .i64 st.2.2.2.2.1,.int .i64 st.2.2.2.2.2] 64,.own 2 fd 68]⟩
noncomputable def nQ (l:List (Int×Int×Int×Int×Int×Int)) (aA:Bool) (fs:List (Int×Int×Int×Int×Int×Int)) (_:Bool) (_:Int) (mg:List (Int×Int×Int×Int×Int×Int)):St cod:=⟨bc 55 [(0,.c (.ai 0 0 l.length aA)),(15,.c (.ai 3 0 mg.length false)),(0,.c (.int .i64 0))],([.aB 2 l,.aB 2 fs,.own 2 [] 42,.aB 2 mg]:Heap cod)⟩
theorem QO (l:List (Int×Int×Int×Int×Int×Int)) (aA:Bool) (fs:List (Int×Int×Int×Int×Int×Int)) (cy:Bool) (time:Int) (mg:List (Int×Int×Int×Int×Int×Int)):aI iK pc Tryz.f9.results.toList 2 400 (bu Tryz.f9 17) (nQ l aA fs cy time mg)=
.aa (((0=0∧List.length l=List.length l)∧((0=0∧List.length mg=List.length mg)∧(F.rA l=0∧(F.DU mg∧List.length mg≤100))))) (
.ret (.fin (.aP [.c (.own 2 (F.E0 l mg []).length),.c (.bool (decide (0=0)))]) [.own 2 (F.E0 l mg []) 42])):=by kernel_rfl
theorem adC (l:List (Int×Int×Int×Int×Int×Int)) (aA:Bool) (fs:List (Int×Int×Int×Int×Int×Int)) (cy:Bool) (time:Int) (LL:List (List (Int×Int×Int×Int×Int×Int))) (k:Int):aI iK eF Tryz.f9.results.toList 2 400 (bu Tryz.f9 14).tail (ig l aA fs cy time LL k)=
 (let q0:=List.length l;
 .aa (ae (k+1)) (.ret (.cut (cutAt Tryz.f9 3) ⟨bc 51 [(0,.c (.ai 0 0 q0 aA)),(0,.c (.ai 1 0 fs.length cy)),(0,.c (.int .i64 time)),(5,.c (.own 3 LL.length)),(10,.c (.ai 0 0 q0 aA)),(0,.c (.int .i64 (Int.ofNat q0))),(0,.c (.int .i64 (k+1)))],[.aB 2 l,.aB 2 fs,.own 2 [] 42,.cj 2 (LL) [] [] 66 68]⟩))):=by kernel_rfl
noncomputable def qh (l:List (Int×Int×Int×Int×Int×Int)) (aA:Bool) (fs:List (Int×Int×Int×Int×Int×Int)) (cy:Bool) (time:Int) (LL:List (List (Int×Int×Int×Int×Int×Int))) (k:Int) (st:Int×Int×Int×Int×Int×Int) (fd:List (Int×Int×Int×Int×Int×Int)) (fn:Nat):St cod:=⟨bc 18 [(0,.c (.ai 0 0 l.length aA)),(0,.c (.ai 1 0 fs.length cy)),(0,.c (.int .i64 time)),(5,.c (.own 3 LL.length)),(2,.c (.own 5 (fn))),(7,.c (.ai 0 0 l.length aA)),(0,.c (.int .i64 (Int.ofNat l.length))),(0,.c (.int .i64 k)),(30,.c (.own 3 LL.length)),(0,.c (.own 5 (fn))),(0,.c (.ai 6 0 1 true))],[.aB 2 l,.aB 2 fs,.own 2 [] 42,.cj 2 (LL) [] [] 66 68,.aF [.int .i64 st.1,.int .i64 st.2.1,.int .i64 st.2.2.1,.int .i64 st.2.2.2.1,.int .i64 st.2.2.2.2.1,.int .i64 st.2.2.2.2.2] 64,.own 2 fd 68,.aF [.own 5 (fn)] 66]⟩
theorem Z0 (l:List (Int×Int×Int×Int×Int×Int)) (aA:Bool) (fs:List (Int×Int×Int×Int×Int×Int)) (cy:Bool) (time:Int) (LL:List (List (Int×Int×Int×Int×Int×Int))) (k:Int) (st:Int×Int×Int×Int×Int×Int) (fd:List (Int×Int×Int×Int×Int×Int)) (fn:Nat):lT iK (Q14.toList.take 3) (vq l aA fs cy time LL k st fd fn)= .ret (qh l aA fs cy time LL k st fd fn):=by kernel_rfl
noncomputable def P14:Oper:=Q14.toList.getD 3 default
theorem abv:P14.op= .call ⟨.builtin .append,#[.tmp 52,.tmp 54],#[65,65]⟩:=by kernel_rfl
theorem XI:P14.dst=some 55:=by kernel_rfl
theorem abw:bu Tryz.f9 14= .code (.region (idI (bu Tryz.f9 14)) Q14 false)::(bu Tryz.f9 14).tail:=by kernel_rfl
theorem Ot:Q14.toList=Q14.toList.take 3++P14::Q14.toList.drop 4:=by kernel_rfl
theorem SI:(Q14.toList.all fun o=>o.guard.isNone)=true:=by kernel_rfl
theorem agK:Tryz.prog.underlying 65=some (.slice 66):=by kernel_rfl
theorem ZLP:(Tryz.prog.info? 66).map (fun i=>(i.zero.map fun z=>z.cells.size,i.size,i.bytes))=some (some 1,1,24):=by kernel_rfl
noncomputable def ma (l:List (Int×Int×Int×Int×Int×Int)) (aA:Bool) (fs:List (Int×Int×Int×Int×Int×Int)) (cy:Bool) (time:Int) (LL:List (List (Int×Int×Int×Int×Int×Int))) (k:Int) (st:Int×Int×Int×Int×Int×Int) (fd:List (Int×Int×Int×Int×Int×Int)) (fn:Nat):St cod:=(qh l aA fs cy time LL k st fd fn).put (some 55) {v:=.c (.own 3 (LL.length+1)),H:=((qh l aA fs cy time LL k st fd fn).heap.set 3 (.cj 2 (LL++[[]]) [LL.length] [.own 5 fn] 66 68)).map (av.aX (Cell.bR [3])),kill:=[3]}
noncomputable def qi (l:List (Int×Int×Int×Int×Int×Int)) (aA:Bool) (fs:List (Int×Int×Int×Int×Int×Int)) (cy:Bool) (time:Int) (LL:List (List (Int×Int×Int×Int×Int×Int))) (k:Int) (st:Int×Int×Int×Int×Int×Int) (fd:List (Int×Int×Int×Int×Int×Int)) (fn:Nat):St cod:=(ma l aA fs cy time LL k st fd fn).put (some 8) {v:=.c (.own 3 (LL.length+1)),H:=(ma l aA fs cy time LL k st fd fn).heap}
theorem Z1 (l:List (Int×Int×Int×Int×Int×Int)) (aA:Bool) (fs:List (Int×Int×Int×Int×Int×Int)) (cy:Bool) (time:Int) (LL:List (List (Int×Int×Int×Int×Int×Int))) (k:Int) (st:Int×Int×Int×Int×Int×Int) (fd:List (Int×Int×Int×Int×Int×Int)) (fn:Nat):lT iK (Q14.toList.drop 4) (ma l aA fs cy time LL k st fd fn)= .ret (qi l aA fs cy time LL k st fd fn):=by kernel_rfl
theorem Z2 (l:List (Int×Int×Int×Int×Int×Int)) (aA:Bool) (fs:List (Int×Int×Int×Int×Int×Int)) (cy:Bool) (time:Int) (LL:List (List (Int×Int×Int×Int×Int×Int))) (k:Int) (st:Int×Int×Int×Int×Int×Int) (fd:List (Int×Int×Int×Int×Int×Int)) (fn:Nat):((qi l aA fs cy time LL k st fd fn).jA 3).fit [0,1,2,8,19,20,21] 4=⟨bc 51 [(0,.c (.ai 0 0 l.length aA)),(0,.c (.ai 1 0 fs.length cy)),(0,.c (.int .i64 time)),(5,.c (.own 3 (LL.length+1))),(10,.c (.ai 0 0 l.length aA)),(0,.c (.int .i64 (Int.ofNat l.length))),(0,.c (.int .i64 k))],[.aB 2 l,.aB 2 fs,.own 2 [] 42,.cj 2 ((LL++[[]]).set LL.length fd) [] [] 66 68]⟩:=by kernel_rfl
theorem WK (l:List (Int×Int×Int×Int×Int×Int)) (aA:Bool) (fs:List (Int×Int×Int×Int×Int×Int)) (cy:Bool) (time:Int) (LL:List (List (Int×Int×Int×Int×Int×Int))) (k:Int) (st:Int×Int×Int×Int×Int×Int) (fd:List (Int×Int×Int×Int×Int×Int)) (fn:Nat) {b0:aC} (hb:b0.n=2) {Q:St cod→Prop} (h2:LL.length+1≤1000000) (hk:Sym.af Tryz.prog b0 (bu Tryz.f9 14).tail (ig l aA fs cy time (LL++[fd]) k) Q):Sym.af Tryz.prog b0 (bu Tryz.f9 14) (vq l aA fs cy time LL k st fd fn) Q:=by
 refine af.mid (cfg:=iK) fD abw Ot SI (Z0 l aA fs cy time LL k st fd fn) ?_;refine ⟨ma l aA fs cy time LL k st fd fn,?_,?_⟩
 ·refine uB.app (b:=6) (h:=3) (n:=LL.length) (c:=.own 5 fn) (T:=65) (ty:=66) (tyr:=68) (t:=2) (LL:=LL) (tb:=66) (B:=24) abv rfl rfl agK ZLP (by omega) rfl rfl rfl rfl rfl h2 (by omega) ?_;rw [XI];rfl
 ·rw [Z1];refine af.jA 3 (j:=LL.length) (r:=5) (N:=2) hb (t:=2) (LL:=LL++[[]]) (js:=[]) (c:=.own 5 fn) (cs:=[]) (ty:=66) (tyr:=68) (l:=fd) rfl (NF LL []) List.not_mem_nil rfl (by omega) (by omega) rfl ?_;refine af.weaken (fun a w hR=>?_) hk
  have e4:((qi l aA fs cy time LL k st fd fn).jA 3).fit [0,1,2,8,19,20,21] 4=ig l aA fs cy time (LL++[fd]) k:=by
   rw [Z2,Hu];unfold ig;rw [List.length_append];rfl
  rw [←e4];exact oh _ _ (by omega) hR
theorem ZX (l:List (Int×Int×Int×Int×Int×Int)) (aA:Bool) (fs:List (Int×Int×Int×Int×Int×Int)) (cy:Bool) (time:Int) (ho:F.iJ l fs time) (b0:aC) (hb:b0.n=2) (LL:List (List (Int×Int×Int×Int×Int×Int))) (hLL:LL.length≤100) (k:Int) (st:Int×Int×Int×Int×Int×Int) (Gq:st∈F.sites)
 (nx:Sym.af Tryz.prog b0 (bu Tryz.f9 14).tail (ig l aA fs cy time (LL++[fs.map (F.Ij time st)]) k) (Sym.Ends Tryz.prog Tryz.f9 2 (.aP [.c (.own 2 (F.seen l fs time).length),.c (.bool true)]) [.own 2 (F.seen l fs time) 42])):∀(q m fn:Nat),m+q=fs.length→fn=((fs.take m).map (F.Ij time st)).length→
 Sym.af Tryz.prog b0 (cutAt Tryz.f9 7) (Cd l aA fs cy time LL k st ((fs.take m).map (F.Ij time st)) fn (m:Int)) (Sym.Ends Tryz.prog Tryz.f9 2 (.aP [.c (.own 2 (F.seen l fs time).length),.c (.bool true)]) [.own 2 (F.seen l fs time) 42]):=by
 obtain ⟨o1,o2,o3,o4⟩:=ho;intro q
 induction q with
 | zero=>
   intro m fn hm hfn;refine af.go (cfg:=iK) fD mixed eF 400 hb (N2 l aA fs cy time LL k st _ fn (m:Int)) ?_;simp only [T.wp,T.wp_cond,bF];refine ap (by rw [decide_eq_false (by simp only [Int.ofNat_eq_natCast];omega)];decide) ?_;have e:(fs.take m).map (F.Ij time st)=fs.map (F.Ij time st):=by rw [List.take_of_length_le (by omega)]
   rw [e]
   exact WK l aA fs cy time LL k st _ fn hb (by omega) nx
 | succ q ih=>
   intro m fn hm hfn;have hmf:m < fs.length:=by omega
   have e1:(fs.take (m+1)).map (F.Ij time st)=(fs.take m).map (F.Ij time st)++[F.Ij time st (fs.getD m F.dq)]:=by
    rw [et fs F.dq m hmf,List.map_append];rfl
   have fK:=ih (m+1) (fn+1) (by omega) (by rw [e1,List.length_append,List.length_singleton,hfn]);rw [e1,Int.natCast_succ] at fK;have hf:=o3 _ (dM hmf);have ed:(cod 2).d=F.dq:=rfl;have akk:fn≤m:=by rw [hfn,List.length_map,List.length_take];omega
   refine af.go (cfg:=iK) fD mixed eF 400 hb (N2 l aA fs cy time LL k st _ fn (m:Int)) ?_;simp only [T.wp,T.wp_cond,bF,Int.toNat_natCast,Nat.zero_add];rw [ed];exact aq (decide_eq_true (by simp only [Int.ofNat_eq_natCast];omega)) ⟨by simp only [Int.ofNat_eq_natCast];omega,hmf,⟨hf,by omega,by omega⟩,VA Gq hf o4,trivial,by omega,by unfold ae;omega,fK⟩
noncomputable def Ce (l:List (Int×Int×Int×Int×Int×Int)) (aA:Bool) (fs:List (Int×Int×Int×Int×Int×Int)) (_:Bool) (_:Int) (n:Nat) (mg:List (Int×Int×Int×Int×Int×Int)):St cod:=⟨bc 55 [(0,.c (.ai 0 0 l.length aA)),(15,.c (.ai 3 0 n false)),(0,.c (.int .i64 0))],[.aB 2 l,.aB 2 fs,.own 2 [] 42,.aB 2 mg]⟩
theorem adB (l:List (Int×Int×Int×Int×Int×Int)) (aA:Bool) (fs:List (Int×Int×Int×Int×Int×Int)) (cy:Bool) (time:Int) (n:Nat) (mg:List (Int×Int×Int×Int×Int×Int)) (h:n=mg.length):Ce l aA fs cy time n mg=nQ l aA fs cy time mg:=by
 subst h;rfl
theorem ZW (l:List (Int×Int×Int×Int×Int×Int)) (aA:Bool) (fs:List (Int×Int×Int×Int×Int×Int)) (cy:Bool) (time:Int) (ho:F.iJ l fs time) (b0:aC) (hb:b0.n=2):∀(q k:Nat),k+q=l.length→
 Sym.af Tryz.prog b0 (cutAt Tryz.f9 3) (ig l aA fs cy time ((l.take k).map fun s=>fs.map (F.Ij time s)) (k:Int)) (Sym.Ends Tryz.prog Tryz.f9 2 (.aP [.c (.own 2 (F.seen l fs time).length),.c (.bool true)]) [.own 2 (F.seen l fs time) 42]):=by
 intro q
 induction q with
 | zero=>
   intro k hk;have e:(l.take k).map (fun s=>fs.map (F.Ij time s))=F.fF l fs time:=by rw [List.take_of_length_le (by omega)];rfl
   rw [e];have hg:=O6 ho;have hp:=JQ ho;have hlen:=tz ho
   have afL:Sym.af Tryz.prog b0 (bu Tryz.f9 17) (nQ l aA fs cy time (F.vF (F.fF l fs time))) (Sym.Ends Tryz.prog Tryz.f9 2 (.aP [.c (.own 2 (F.seen l fs time).length),.c (.bool true)]) [.own 2 (F.seen l fs time) 42]):=by
    refine af.go (cfg:=iK) fD mixed pc 400 hb (QO l aA fs cy time (F.vF (F.fF l fs time))) ?_;simp only [T.wp,bF];exact ⟨⟨⟨trivial,trivial⟩,⟨trivial,trivial⟩,by rw [ho.1];exact Mc,hp,by omega⟩,rfl,rfl⟩
   refine af.go (cfg:=iK) fD mixed eF 400 hb (N1 l aA fs cy time (F.fF l fs time) (k:Int)) ?_;simp only [T.wp,T.wp_cond,bF];refine ap (by rw [decide_eq_false (by simp only [Int.ofNat_eq_natCast];omega)];decide) ⟨⟨⟨trivial,trivial⟩,hg⟩,?_⟩;refine af.view 4 rfl ?_;refine af.trim 4 (F.vF (F.fF l fs time)).length rfl ?_;refine af.iW [0,1,2,4] 17 hb (by decide) rfl rfl (bg:=Ce l aA fs cy time (F.vF (F.fF l fs time)).length ((F.rB (F.fF l fs time)).take (F.vF (F.fF l fs time)).length)) rfl ?_;rw [Kv,adB _ _ _ _ _ _ _ rfl]
   exact afL
 | succ q ih=>
   intro k hk;have fx:k < l.length:=by omega
   have e1:(l.take (k+1)).map (fun s=>fs.map (F.Ij time s))=(l.take k).map (fun s=>fs.map (F.Ij time s))++[fs.map (F.Ij time (l.getD k F.dq))]:=by
    rw [et l F.dq k fx,List.map_append];rfl
   have hs:l.getD k F.dq∈F.sites:=by rw [←ho.1];exact dM fx
   have h4:l.length=2:=by rw [ho.1];rfl
   have nx:=ih (k+1) (by omega);rw [e1,Int.natCast_succ] at nx
   have run:=ZX l aA fs cy time ho b0 hb ((l.take k).map fun s=>fs.map (F.Ij time s)) (by rw [List.length_map,List.length_take];omega) (k:Int) (l.getD k F.dq) hs (by
    refine af.go (cfg:=iK) fD mixed eF 400 hb (adC l aA fs cy time _ (k:Int)) ?_;simp only [T.wp,bF];exact ⟨by unfold ae;omega,nx⟩) fs.length 0 0 (by omega) rfl
   have ed:(cod 2).d=F.dq:=rfl;refine af.go (cfg:=iK) fD mixed eF 400 hb (N1 l aA fs cy time _ (k:Int)) ?_;simp only [T.wp,T.wp_cond,bF,Int.toNat_natCast,Nat.zero_add];rw [ed];exact aq (decide_eq_true (by simp only [Int.ofNat_eq_natCast];omega)) ⟨by simp only [Int.ofNat_eq_natCast];omega,fx,run⟩
theorem WM (l:List (Int×Int×Int×Int×Int×Int)) (aA:Bool) (fs:List (Int×Int×Int×Int×Int×Int)) (cy:Bool) (time:Int) (b0:aC) (hb:b0.n=2) (h0:F.iJ l fs time):Sym.af Tryz.prog b0 [.code (aj Tryz.f9)] ⟨ay Tryz.f9 [.c (.ai 0 0 l.length aA),.c (.ai 1 0 fs.length cy),.c (.int .i64 time)],([.aB 2 l,.aB 2 fs]:Heap cod)⟩ (Sym.Ends Tryz.prog Tryz.f9 2 (.aP [.c (.own 2 (F.seen l fs time).length),.c (.bool true)]) [.own 2 (F.seen l fs time) 42]):=by
 refine af.go (cfg:=iK) fD mixed eF 400 hb (ZZ l aA fs cy time) ?_;simp only [T.wp,bF];exact af.pf 8 2 66 68 rfl rfl (ZW l aA fs cy time h0 b0 hb l.length 0 (by omega))
noncomputable def Lr:aH cod:=fun args H=>match args,H with
 | [.c (.ai 0 cF cA _),.c (.ai 1 ahg ahh _),.c (.int .i64 time)],[o0,o1]=>(match o0.cV 2 with | some l=>(match o1.cV 2 with | some fs=>.aa ((cF=0∧cA=List.length l)∧(ahg=0∧ahh=List.length fs)∧(F.iJ l fs time)) (.ret (.aP [.c (.own 2 (F.seen l fs time).length),.c (.bool true)],[.own 2 (F.seen l fs time) 42])) | none=>.fail) | none=>.fail)
 | _,_=>.fail
theorem LC:Sound Tryz.prog cod 9 Lr:=ax (cfg:=iK) fD mixed Tryz.func9 rfl rfl _ fun args H r news hg b0 hb=>by
 unfold Lr at hg;split at hg
 ·skip
  split at hg
  ·rename_i l gG;cases aR gG;split at hg
   ·rename_i fs yo;cases aR yo;simp only [T.ah,T.wp,Prod.mk.injEq] at hg;obtain ⟨⟨⟨rfl,rfl⟩,⟨rfl,rfl⟩,q2⟩,rfl,rfl⟩:=hg;exact WM _ _ _ _ _ b0 hb (by assumption)
   ·exact hg.elim
  ·exact hg.elim
 ·exact hg.elim
noncomputable def SA:aQ cod:=(9,.p Lr)::Sq
theorem Om:cv Tryz.prog cod SA:=.cons LC fD
end
end
section
open Sym
theorem tT {s p:F.Sp} {time:Int} (hs:s∈F.sites) (hp:F.DV time p):F.yP s p=0:=by
 obtain ⟨h1,h2,h3,h4,h5,h6⟩:=hp
 have key:∀v:Int,-32768000000≤v∧v≤32768000000→(v≤p.2.2.1*16384∧-(p.2.2.1*16384)≤v)→-300000≤F.nr v∧F.nr v≤300000:=fun v hv hb=>by
  have q:∀m:Int,0≤m→m≤p.2.2.1*16384→(m+8192).tdiv 16384≤300000∧0≤(m+8192).tdiv 16384:=fun m m1 m2=>by
   have e:(m+8192).tdiv 16384=(m+8192) / 16384:=Int.tdiv_eq_ediv_of_nonneg (by omega);rw [e];omega
  unfold F.nr;split
  ·have:=q (-v) (by omega) (by omega);omega
  ·have:=q v (by omega) (by omega);omega
 have hv:=fun (z:Int) (hz: -16384≤z∧z≤16384)=>key (p.2.2.1*z) (si (by omega) hz) (by
  have a1:=Int.mul_le_mul_of_nonneg_left hz.2 h3.1;have a2:=Int.mul_le_mul_of_nonneg_left hz.1 h3.1;omega)
 have vx:=hv _ (l7 p.2.2.2.1);have vy:=hv _ (oa p.2.2.2.1);have ex:F.vX p.2.2.2.1 p.2.2.1=F.nr (p.2.2.1*F.cp p.2.2.2.1):=rfl;have ey:F.vY p.2.2.2.1 p.2.2.1=F.nr (p.2.2.1*F.cx p.2.2.2.1):=rfl
 have er:F.err s.1 s.2.1 s.2.2.1 s.2.2.2.1 s.2.2.2.2.1 s.2.2.2.2.2 p.2.2.1≤1000000:=by
  have hss:F.iD s.1 s.2.1 s.2.2.1 s.2.2.2.1 s.2.2.2.2.1 s.2.2.2.2.2=0:=by rcases dy hs with rfl | rfl<;>decide+kernel
  unfold F.err;rw [if_pos ⟨hss,bN.2 (by omega)⟩];rcases dy hs with rfl | rfl<;>dsimp only<;>omega
 unfold F.yP F.pp F.cP F.rsX F.rsY;rw [ex,ey];have b1: -30000≤s.2.1∧s.2.1≤30000:=by rcases dy hs with rfl | rfl<;>decide
 have b2:0≤s.2.2.1∧s.2.2.1≤40000:=by rcases dy hs with rfl | rfl<;>decide
 rw [bN.2 (show -1000000≤s.2.1+F.nr (p.2.2.1*F.cp p.2.2.2.1)∧s.2.1+F.nr (p.2.2.1*F.cp p.2.2.2.1)≤1000000 by omega),bN.2 (show -1000000≤s.2.2.1+F.nr (p.2.2.1*F.cx p.2.2.2.1)∧s.2.2.1+F.nr (p.2.2.1*F.cx p.2.2.2.1)≤1000000 by omega),Bool.and_true,if_pos rfl,if_neg (by omega)]
theorem adx {s p:F.Sp} {time:Int} (hs:s∈F.sites) (hp:F.DV time p) (ht:0≤time∧time≤12):F.RD (F.Xy s p)=0∧(F.Xy s p).1=time:=by
 have h0:=tT hs hp
 have hz:∀v:Int,F.z (F.pp s.1 s.2.1 s.2.2.1 s.2.2.2.1 s.2.2.2.2.1 s.2.2.2.2.2 p.2.2.2.1 p.2.2.1) v=v:=fun v=>by
  have ye:F.pp s.1 s.2.1 s.2.2.1 s.2.2.2.1 s.2.2.2.2.1 s.2.2.2.2.2 p.2.2.2.1 p.2.2.1=0:=h0;rw [ye];rfl
 obtain ⟨h1,h2,h3,h4,h5,h6⟩:=hp
 have er:0≤F.err s.1 s.2.1 s.2.2.1 s.2.2.2.1 s.2.2.2.2.1 s.2.2.2.2.2 p.2.2.1∧F.err s.1 s.2.1 s.2.2.1 s.2.2.2.1 s.2.2.2.2.1 s.2.2.2.2.2 p.2.2.1≤1000000:=by
  have hss:F.iD s.1 s.2.1 s.2.2.1 s.2.2.2.1 s.2.2.2.2.1 s.2.2.2.2.2=0:=by rcases dy hs with rfl | rfl<;>decide+kernel
  unfold F.err;rw [if_pos ⟨hss,bN.2 (by omega)⟩];rcases dy hs with rfl | rfl<;>dsimp only<;>omega
 have pl:F.cP (F.rsX s.2.1 p.2.2.2.1 p.2.2.1) (F.rsY s.2.2.1 p.2.2.2.1 p.2.2.1)=true:=by
  have ye:F.pp s.1 s.2.1 s.2.2.1 s.2.2.2.1 s.2.2.2.2.1 s.2.2.2.2.2 p.2.2.2.1 p.2.2.1=0:=h0;unfold F.pp at ye;split at ye
  ·assumption
  ·cases ye
 unfold F.cP at pl;obtain ⟨p1,p2⟩:=Bool.and_eq_true_iff.1 pl;unfold F.Xy F.RD;simp only [hz];exact ⟨N7 (by omega) (bN.1 p1) (bN.1 p2) (by omega) (by omega) er,h2⟩
theorem N4 (p:F.Sp):∀(l out:List F.Sp) (x:F.Sp),x∈F.Ik p l out→x∈out∨∃s∈l,x=F.Xy s p
 | [],out,x,h=>.inl h
 | s::l,out,x,h=>by
   unfold F.Ik at h;rcases N4 p l _ x h with h | ⟨s',h1,h2⟩
   ·split at h
    ·rcases List.mem_append.1 h with h | h
     ·exact .inl h
     ·exact .inr ⟨s,List.mem_cons_self ..,List.mem_singleton.1 h⟩
    ·exact .inl h
   ·exact .inr ⟨s',List.mem_cons_of_mem _ h1,h2⟩
theorem N5 (l:List F.Sp):∀(ps out:List F.Sp) (x:F.Sp),x∈F.E0 l ps out→x∈out∨∃s∈l,∃p∈ps,x=F.Xy s p
 | [],out,x,h=>.inl h
 | p::ps,out,x,h=>by
   unfold F.E0 at h;rcases N5 l ps _ x h with h | ⟨s,h1,q,h2,h3⟩
   ·rcases N4 p l out x h with h | ⟨s,h1,h2⟩
    ·exact .inl h
    ·exact .inr ⟨s,h1,p,List.mem_cons_self ..,h2⟩
   ·exact .inr ⟨s,h1,q,List.mem_cons_of_mem _ h2,h3⟩
theorem aaa {time:Int} {p:F.Sp} (hp:F.DV time p) (out:List F.Sp):(F.Ik p F.sites out).length=out.length+1:=by
 have e1:=tT (s:=(1,-20000,0,400000,50,2)) (by unfold F.sites;simp) hp;have e2:=tT (s:=(2,30000,40000,400000,80,3)) (by unfold F.sites;simp) hp;unfold F.sites F.Ik F.Ik F.Ik;dsimp only;rcases hp.1 with h | h
 ·rw [if_neg (show ¬((2:Int)=p.1∧F.yP (2,30000,40000,400000,80,3) p=0) by rw [h];exact fun q=>absurd q.1 (by decide)),if_pos (show (1:Int)=p.1∧F.yP (1,-20000,0,400000,50,2) p=0 from ⟨h.symm,e1⟩)];simp
 ·rw [if_pos (show (2:Int)=p.1∧F.yP (2,30000,40000,400000,80,3) p=0 from ⟨h.symm,e2⟩),if_neg (show ¬((1:Int)=p.1∧F.yP (1,-20000,0,400000,50,2) p=0) by rw [h];exact fun q=>absurd q.1 (by decide))];simp
theorem N6 {time:Int}:∀(ps out:List F.Sp),(∀p∈ps,F.DV time p)→(F.E0 F.sites ps out).length=out.length+ps.length
 | [],out,_=>rfl
 | p::ps,out,h=>by
   unfold F.E0;rw [N6 ps _ (fun q hq=>h q (List.mem_cons_of_mem _ hq)),aaa (h p (List.mem_cons_self ..)),List.length_cons];omega
theorem ZY {l fs:List F.Sp} {time:Int} (ho:F.iJ l fs time):F.ft (F.seen l fs time) time∧(F.seen l fs time).length≤6∧(0 < fs.length→0 < (F.seen l fs time).length):=by
 have hpt:=Ga ho;have hlen:=tz ho
 have e:(F.seen l fs time).length=(F.vF (F.fF l fs time)).length:=by
  unfold F.seen;rw [show F.E0 l (F.vF (F.fF l fs time)) []=F.E0 F.sites (F.vF (F.fF l fs time)) [] by rw [←ho.1],N6 _ _ hpt];simp
 refine ⟨⟨by omega,by have:=ho.2.2.2;omega,fun s hs=>?_⟩,by omega,fun h=>?_⟩
 ·unfold F.seen at hs;rcases N5 _ _ _ _ hs with h | ⟨s',h1,p,h2,rfl⟩
  ·cases h
  ·exact adx (by rw [←ho.1];exact h1) (hpt p h2) ho.2.2.2
 ·rw [e];unfold F.vF;refine Xd ?_;rw [oC,jF];have:l.length=2:=by rw [ho.1];rfl
  rw [this];omega
theorem Mi {l m:List F.Sp} (h:l.Perm m):F.iE l=F.iE m:=
 vd (iU l) (iU m) ((fR l).trans (h.trans (fR m).symm))
theorem Mn {l m:List F.Sp} (h:l.Perm m) (band:Int):F.bI l band=F.bI m band:=by
 unfold F.bI;rw [Mi h]
theorem DX {l m:List F.Sp} {time:Int} (h:l.Perm m) (ho:F.ft l time):F.ft m time:=
 ⟨by rw [←h.length_eq];exact ho.1,ho.2.1,fun s hs=>ho.2.2 s (h.mem_iff.2 hs)⟩
end
section
open Sym Go.RowKit Go.Sort
set_option maxHeartbeats 4000000
theorem QC (b cap:Nat) (l:List F.Sp) (w:World) (hm:l.length≤1000000) (hr:iM w b (aN (cod 2) l)):
 Calls Tryz.prog 12 (Value.slice (.some ⟨b,0,Option.none⟩) l.length cap::kr []).toArray w fun e w'=>e= .returned (.tuple #[])∧∃(n:Nat) (os:Array Obj) (D:Array Value),D.toList.map id=aN (cod 2) l.reverse∧w'=grow (putRow id (Sort.ahead w n) b 0 D) os:=by
 have hH:HoldsK e7 6 w b 0 l.toArray:=by
  refine iM.holds (e':=id) (D:=flatK e7 6 l.toArray) ?_;rw [List.map_id,gW];exact hr
 have Ug:=AnyQ.slices_Reverse Ny 6 Tryz.isAgg42 Tryz.sizeOf42 e7 nk (fun x v hv=>by
  change v∈[Value.int .i64 x.1,.int .i64 x.2.1,.int .i64 x.2.2.1,.int .i64 x.2.2.2.1,.int .i64 x.2.2.2.2.1,.int .i64 x.2.2.2.2.2] at hv;simp only [List.mem_cons,List.not_mem_nil,or_false] at hv;rcases hv with rfl | rfl | rfl | rfl | rfl | rfl<;>rfl) b 0 cap l.toArray w hH (by simp;omega)
 refine Ug.mono ?_;rintro e w' ⟨rfl,n,rfl⟩;refine ⟨rfl,n,#[],flatK e7 6 l.reverse.toArray,by rw [List.map_id,gW],?_⟩;rw [grow_empty,List.reverse_toArray];rfl
theorem KL:aaH Tryz.prog cod 12 2 [] List.reverse Value id where
 enters:=tx Tryz.func12 rfl rfl
 len:=fun _=>List.length_reverse
 none:=fun p cap w=>AnyQ.slices_Reverse_empty Ny p cap w
 some:=fun b cap l w _ hm hr=>QC b cap l w hm hr
noncomputable def abk:aH cod:=qf 2 [] List.reverse
theorem QD:dz Tryz.prog cod 12 true abk:=KC KL
end
namespace Sym
open Go.RowKit
section
variable {cod:Nat→aO} {P:Program}
noncomputable def iG (ks:List Nat) (H:Heap cod):Heap cod:=(List.range H.length).map fun i=>if ks.contains i then (getObj H i).seen else getObj H i
noncomputable def Od (ks:List Nat):Cell→Cell
 | .own h n=>if ks.contains h then .ai h 0 n false else .own h n
 | c=>c
noncomputable def Fw (ks:List Nat) (H H':Heap cod):Heap cod:=(List.range H'.length).map fun i=>if ks.contains i&&(decide (i < H.length)&&(getObj H i).isRow) then getObj H i else getObj H' i
noncomputable def Vc (ks:List Nat) (s:aH cod):aH cod:=fun args H=>(s (args.map (SV.aX (Od ks))) (iG ks H)).bind fun r=>
 if (H.length≤r.2.length∧(r.2.drop H.length).all av.wr=true)∧((List.range H.length).all fun i=>!(getObj H i).wr||(getObj r.2 i).wr||(ks.contains i&&(getObj H i).isRow))=true then .ret (r.1,Fw ks H r.2) else .fail
theorem fv (ks:List Nat) (H:Heap cod):(iG ks H).length=H.length:=by simp [iG]
theorem lD {ks:List Nat} {H:Heap cod} {i:Nat} {o:av cod} (h:(iG ks H)[i]? =some o):i < H.length∧H[i]? =some (getObj H i)∧o=if ks.contains i then (getObj H i).seen else getObj H i:=by
 have hi:i < H.length:=by
  have:=(List.getElem?_eq_some_iff.1 h).1
  rwa [fv] at this
 unfold iG at h;rw [List.getElem?_map,List.getElem?_range hi] at h;simp only [Option.map_some,Option.some.injEq] at h;refine ⟨hi,?_,h.symm⟩;unfold getObj;rw [List.getD,List.getElem?_eq_getElem hi];rfl
theorem wk {o:av cod} (h:o.seen.wr=true):o.seen=o∧o.isRow=false:=by
 cases o<;>simp [av.seen,av.wr] at h<;>exact ⟨rfl,rfl⟩
theorem JE {env:Env} {N:Nat} {ks:List Nat} {c:Cell} {v:Value} (h:bZ env N c v):bZ env N (Od ks c) v:=by
 unfold Od;split
 ·split
  ·exact oc h
  ·exact h
 ·exact h
theorem KO {env aK:Env} {N N':Nat} {x:HV} {w:World} {M:Nat→Prop} {o:av cod} (h:o.isRow=true) (ho:bH env N x w M o):bH aK N' x w M o:=NS h ho
theorem GJ {g:FuncId} {kp:Bool} {s:aH cod} (ks:List Nat) (hs:dz P cod g kp s):dz P cod g kp (Vc ks s):=by
 refine ⟨hs.enters,fun args H env w vs r H' G ha hg=>?_⟩;unfold Vc at hg;rw [T.aw] at hg;obtain ⟨⟨r0,H2⟩,hg0,hg⟩:=hg;simp only at hg;split at hg;rotate_left 1
 ·exact hg.elim
 rename_i hc;obtain ⟨⟨hlen,vC⟩,Ns⟩:=hc;rw [T.ad] at hg;simp only [Prod.mk.injEq] at hg;obtain ⟨rfl,rfl⟩:=hg
 have sub:∀b,dG (iG ks H) env w b→dG H env w b:=by
  rintro b (hb | ⟨h,o,ho,hw,hb⟩)
  ·exact .inl hb
  ·obtain ⟨hi,h0,rfl⟩:=lD ho;split at hw
   ·rename_i hk;rw [if_pos hk] at hb;have e:=(wk hw).1;rw [e] at hw hb;exact .inr ⟨h,_,h0,hw,hb⟩
   ·rename_i hk;rw [if_neg hk] at hb;exact .inr ⟨h,_,h0,hw,hb⟩
 have G1:Good env (iG ks H) w (dG (iG ks H) env w):=by
  refine ⟨fun h o ho=>?_,fun h h' o o' b bP ho jS hw hb eG=>?_,G.sr.bG (fun _ _ _ _=>rfl) fun p _ _ hn hm=>hn (sub _ hm)⟩
  ·obtain ⟨hi,h0,e⟩:=lD ho;rw [fv];refine p7 (fun hw b hb=>.inr ⟨h,o,ho,hw,hb⟩) (M:=dG H env w) ?_;rw [e];split
   ·exact (iA (G.obj h _ h0)).1
   ·exact G.obj h _ h0
  ·obtain ⟨hi,h0,e⟩:=lD ho;obtain ⟨Ul,ye,e'⟩:=lD jS
   have Ry:(getObj H h).wr=true∧(getObj H h).has (env h) b:=by
    rw [e] at hw hb;split at hw
    ·rename_i hk;rw [if_pos hk] at hb;have e:=(wk hw).1;rw [e] at hw hb;exact ⟨hw,hb⟩
    ·rename_i hk;rw [if_neg hk] at hb;exact ⟨hw,hb⟩
   have Ng:(getObj H h').has (env h') b:=by
    rw [e'] at eG;split at eG
    ·exact (iA (G.obj h' _ ye)).2 b eG
    ·exact eG
   exact G.sep h h' _ _ b bP h0 ye Ry.1 Ry.2 Ng
 have ha1:F2 (aS env (iG ks H).length) (args.map (SV.aX (Od ks))) vs:=by
  rw [fv];exact jD (R:=aS env H.length) (fun x _ v hv=>iH (fun c v hc=>JE hc) hv) ha
 have still:∀i,ks.contains i=true→i < H.length→(getObj H i).isRow=true→∀b,(getObj H i).has (env i) b→b < w.heap.size∧¬dG (iG ks H) env w b:=fun i hk hi fG b hb=>by
  have h0:H[i]? =some (getObj H i):=by
   unfold getObj;rw [List.getD,List.getElem?_eq_getElem hi];rfl
  have cI:=bi (G.obj i _ h0) hb;refine ⟨cI,?_⟩;rintro (h1 | ⟨h,o,ho,hw,Ng⟩)
  ·omega
  ·obtain ⟨Ul,ye,rfl⟩:=lD ho;by_cases hih:h=i
   ·subst hih;rw [if_pos hk] at hw;have:=(wk hw).2;rw [fG] at this;cases this
   ·have Ry:(getObj H h).wr=true∧(getObj H h).has (env h) b:=by
     split at hw
     ·rename_i hk;rw [if_pos hk] at Ng;have e:=(wk hw).1;rw [e] at hw Ng;exact ⟨hw,Ng⟩
     ·rename_i hk;rw [if_neg hk] at Ng;exact ⟨hw,Ng⟩
    exact G.sep h i _ _ b hih ye h0 Ry.1 Ry.2 hb
 have hbl:(Fw ks H H2).length=H2.length:=by simp [Fw]
 have X3:∀i o,(Fw ks H H2)[i]? =some o→i < H2.length∧((ks.contains i=true∧i < H.length∧(getObj H i).isRow=true∧o=getObj H i)∨(¬(ks.contains i=true∧i < H.length∧(getObj H i).isRow=true)∧H2[i]? =some o)):=fun i o h=>by
  have hi:i < H2.length:=by
   have:=(List.getElem?_eq_some_iff.1 h).1
   rwa [hbl] at this
  refine ⟨hi,?_⟩;unfold Fw at h;rw [List.getElem?_map,List.getElem?_range hi] at h;simp only [Option.map_some,Option.some.injEq] at h;by_cases c:(ks.contains i&&(decide (i < H.length)&&(getObj H i).isRow))=true
  ·rw [if_pos c] at h;simp only [Bool.and_eq_true,decide_eq_true_eq] at c;exact .inl ⟨c.1,c.2.1,c.2.2,h.symm⟩
  ·rw [if_neg c] at h;simp only [Bool.and_eq_true,decide_eq_true_eq] at c;refine .inr ⟨c,?_⟩;rw [←h];unfold getObj;rw [List.getD,List.getElem?_eq_getElem hi];rfl
 have live:∀i,¬(ks.contains i=true∧i < H.length∧(getObj H i).isRow=true)→Live H i→Live (iG ks H) i:=fun i hn hl hi=>by
  rw [fv] at hi;have hw:=hl hi
  have e:getObj (iG ks H) i=if ks.contains i then (getObj H i).seen else getObj H i:=by
   unfold iG getObj;simp only [List.getD];rw [List.getElem?_map,List.getElem?_range hi];rfl
  rw [e];split
  ·rename_i hk
   have hr:(getObj H i).isRow=false:=by
    cases hr:(getObj H i).isRow with
    | false=>rfl
    | true=>exact absurd ⟨hk,hi,hr⟩ hn
   generalize getObj H i=o at*;cases o<;>simp [av.isRow] at hr<;>exact hw
  ·exact hw
 refine (hs.calls _ _ env w vs r0 H2 G1 ha1 hg0).mono ?_;rintro e w' ⟨v,aK,rfl,aeJ,hv,kV,Uu,gY⟩
 have Ni:∀i,ks.contains i=true→i < H.length→(getObj H i).isRow=true→aK i=env i:=fun i hk hi fG=>by
  refine aeJ i (by rw [fv];exact hi) (.inr ?_)
  have e:getObj (iG ks H) i=(getObj H i).seen:=by
   unfold iG getObj;simp only [List.getD];rw [List.getElem?_map,List.getElem?_range hi];simp only [Option.map_some,Option.getD_some];rw [if_pos hk]
  rw [e];generalize getObj H i=o at*;cases o<;>simp [av.isRow] at fG<;>rfl
 refine ⟨v,aK,rfl,fun i hi hh=>?_,by rw [hbl];exact hv,fun i o ho hl=>?_,fun i j o o' b bP ho jS hl gP hw hb eG=>?_,gY.mono fun b _ hb=>sub b hb⟩
 ·refine aeJ i (by rw [fv];exact hi) (hh.imp id fun h=>?_)
  have e:getObj (iG ks H) i=if ks.contains i then (getObj H i).seen else getObj H i:=by
   unfold iG getObj;simp only [List.getD];rw [List.getElem?_map,List.getElem?_range hi];rfl
  rw [e];split
  ·generalize getObj H i=o at*;cases o<;>first | rfl | (simp [av.bQ] at h)
  ·exact h
 ·rw [hbl];obtain ⟨hi2,⟨hk,hi,fG,rfl⟩ | ⟨hn,h2⟩⟩:=X3 i o ho
  ·have h0:H[i]? =some (getObj H i):=by
    unfold getObj;rw [List.getD,List.getElem?_eq_getElem hi];rfl
   rw [Ni i hk hi fG];refine KO fG (ff (w':=w') (G.obj i _ h0) gY.size fun b hb=>?_);obtain ⟨g1,g2⟩:=still i hk hi fG b hb;exact gY.block b g1 g2
  ·exact iz sub (kV i o h2 (live i hn hl))
 ·obtain ⟨hi2,⟨hk,hi,fG,rfl⟩ | ⟨hn,h2⟩⟩:=X3 i o ho
  ·rw [Ni i hk hi fG] at hb
   have h0:H[i]? =some (getObj H i):=by
    unfold getObj;rw [List.getD,List.getElem?_eq_getElem hi];rfl
   obtain ⟨g1,g2⟩:=still i hk hi fG b hb;obtain ⟨hj2,⟨tE,hj,Nl,rfl⟩ | ⟨hn',oQ⟩⟩:=X3 j o' jS
   ·rw [Ni j tE hj Nl] at eG
    have ye:H[j]? =some (getObj H j):=by
     unfold getObj;rw [List.getD,List.getElem?_eq_getElem hj];rfl
    exact G.sep i j _ _ b bP h0 ye hw hb eG
   ·have hw':o'.wr=true:=by
     rcases Nat.lt_or_ge j H.length with hj | hj
     ·
      have h3:=List.all_eq_true.1 Ns j (List.mem_range.2 hj);have e:getObj H2 j=o':=cK oQ;rw [e,gP hj] at h3;simp only [Bool.not_true,Bool.false_or,Bool.or_eq_true,Bool.and_eq_true] at h3;rcases h3 with h3 | h3
      ·exact h3
      ·exact absurd ⟨h3.1,hj,h3.2⟩ hn'
     ·exact List.all_eq_true.1 vC o' (List.mem_of_getElem? (i:=j - H.length) (by rw [List.getElem?_drop,show H.length+(j - H.length)=j by omega];exact oQ))
    exact g2 (cR (kV j o' oQ (live j hn' gP)) hw' eG)
  ·obtain ⟨hj2,⟨tE,hj,Nl,rfl⟩ | ⟨hn',oQ⟩⟩:=X3 j o' jS
   ·rw [Ni j tE hj Nl] at eG;obtain ⟨g1,g2⟩:=still j tE hj Nl b eG;exact g2 (cR (kV i o h2 (live i hn hl)) hw hb)
   ·exact Uu i j o o' b bP h2 oQ (live i hn hl) (live j hn' gP) hw hb eG
noncomputable def St.sj (k:Nat) (st:St cod):St cod:={st with heap:=st.heap.set k ((getObj st.heap k).aX Cell.xp)}
theorem Ri {st:St cod} {b:aC} {a:Act} {w:World} (k:Nat) (hR:Rel st b a w):Rel (st.sj k) b a w:=by
 obtain ⟨env,hF,hd,G,gY,so,zZ,tC⟩:=hR;have hlen:(st.heap.set k ((getObj st.heap k).aX Cell.xp)).length=st.heap.length:=List.length_set
 have aL:∀(i:Nat) (o:av cod),(st.heap.set k ((getObj st.heap k).aX Cell.xp))[i]? =some o→∃o0,st.heap[i]? =some o0∧(o=o0∨o=o0.aX Cell.xp):=fun i o h=>by
  by_cases e:i=k
  ·subst e
   have hl:i < st.heap.length:=by
    have:=(List.getElem?_eq_some_iff.1 h).1
    rwa [List.length_set] at this
   rw [List.getElem?_set_self hl] at h;refine ⟨getObj st.heap i,?_,.inr (Option.some.inj h).symm⟩;unfold getObj;rw [List.getD,List.getElem?_eq_getElem hl];rfl
  ·rw [List.getElem?_set_ne (Ne.symm e)] at h;exact ⟨o,h,.inl rfl⟩
 have XC:∀o0 o:av cod,(o=o0∨o=o0.aX Cell.xp)→(o.wr=true→o0.wr=true)∧(o.bQ=true→o0.bQ=true):=fun o0 o h=>by
  rcases h with rfl | rfl
  ·exact ⟨id,id⟩
  ·rw [fT,j7];exact ⟨id,id⟩
 have aeB:∀(o0 o:av cod) (x:HV) (c:Nat),(o=o0∨o=o0.aX Cell.xp)→o.has x c→o0.has x c:=fun o0 o x c h hc=>by
  rcases h with rfl | rfl
  ·exact hc
  ·rwa [cu] at hc
 refine ⟨env,by simp only [St.sj,hlen];exact hF,hd,⟨fun i o h=>?_,fun i j o o' c bP h h' hw hc cY=>?_,G.sr⟩,gY,so,by simp only [St.sj,hlen];exact zZ,fun i o hi h dS=>?_⟩
 ·simp only [St.sj,hlen];obtain ⟨o0,h0,rfl | rfl⟩:=aL i o h
  ·exact G.obj i _ h0
  ·exact dx (fun c v hc=>oc hc) (G.obj i _ h0)
 ·obtain ⟨o0,h0,e0⟩:=aL i o h;obtain ⟨o0',ye,e0'⟩:=aL j o' h';exact G.sep i j o0 o0' c bP h0 ye ((XC _ _ e0).1 hw) (aeB _ _ _ _ e0 hc) (aeB _ _ _ _ e0' cY)
 ·obtain ⟨o0,h0,e0⟩:=aL i o h;exact tC i o0 hi h0 ((XC _ _ e0).2 dS)
theorem af.sj {b0:aC} {k:List Item} {st:St cod} {Q:St cod→Prop} (h:Nat) {bg:St cod} (e:st.sj h=bg) (hr:af P b0 k bg Q):af P b0 k st Q:=
 af.weaken (fun a w hR=>by rw [←e];exact Ri h hR) hr
end
end Sym
end Go.Proofs.YtcjagpfbhnmggaaGreatDoor
