/- Parts of the proof. -/
import Derived.Test.YtcjagpfbhnmggaaGreatDoorBd34
namespace Go.Proofs.YtcjagpfbhnmggaaGreatDoor
section
open Sym Go.RowKit
noncomputable section
set_option maxRecDepth 100000
set_option maxHeartbeats 4000000
namespace F
noncomputable def Xy (s p:Sp):Sp:=(z (pp s.1 s.2.1 s.2.2.1 s.2.2.2.1 s.2.2.2.2.1 s.2.2.2.2.2 p.2.2.2.1 p.2.2.1) p.2.1,z (pp s.1 s.2.1 s.2.2.1 s.2.2.2.1 s.2.2.2.2.1 s.2.2.2.2.2 p.2.2.2.1 p.2.2.1) (rsX s.2.1 p.2.2.2.1 p.2.2.1),z (pp s.1 s.2.1 s.2.2.1 s.2.2.2.1 s.2.2.2.2.1 s.2.2.2.2.2 p.2.2.2.1 p.2.2.1) (rsY s.2.2.1 p.2.2.2.1 p.2.2.1),z (pp s.1 s.2.1 s.2.2.1 s.2.2.2.1 s.2.2.2.2.1 s.2.2.2.2.2 p.2.2.2.1 p.2.2.1) p.2.2.2.2.1,z (pp s.1 s.2.1 s.2.2.1 s.2.2.2.1 s.2.2.2.2.1 s.2.2.2.2.2 p.2.2.2.1 p.2.2.1) p.2.2.2.2.2,z (pp s.1 s.2.1 s.2.2.1 s.2.2.2.1 s.2.2.2.2.1 s.2.2.2.2.2 p.2.2.2.1 p.2.2.1) (err s.1 s.2.1 s.2.2.1 s.2.2.2.1 s.2.2.2.2.1 s.2.2.2.2.2 p.2.2.1))
noncomputable def yP (s p:Sp):Int:=pp s.1 s.2.1 s.2.2.1 s.2.2.2.1 s.2.2.2.2.1 s.2.2.2.2.2 p.2.2.2.1 p.2.2.1
noncomputable def DU (l:List Sp):Prop:=l.length≤1024∧∀p∈l,RA p=0
noncomputable def Ik (p:Sp):List Sp→List Sp→List Sp
 | [],out=>out
 | s::l,out=>Ik p l (if s.1=p.1∧yP s p=0 then out++[Xy s p] else out)
noncomputable def E0 (l:List Sp):List Sp→List Sp→List Sp
 | [],out=>out
 | p::ps,out=>E0 l ps (Ik p l out)
noncomputable def afF (s p:Sp):Prop:=va s=0∧RA p=0∧p.1=s.1
end F
noncomputable def Lo:aH cod:=fun args H=>match args,H with
 | [.agg cs,.agg ds],[]=>(match c6.ok cs with | true=>(match c6.ok ds with | true=>.aa (F.afF (c6.dec cs) (c6.dec ds)) (.ret (.aP [.agg (c6.enc (F.Xy (c6.dec cs) (c6.dec ds))),.c (.int .i64 (F.yP (c6.dec cs) (c6.dec ds)))],[])) | false=>.fail) | false=>.fail)
 | _,_=>.fail
theorem KR:Sound Tryz.prog cod 46 Lo:=u9.sub fun args H r hg=>by
 unfold Lo at hg;split at hg
 ·rename_i cs ds;split at hg
  ·rename_i h0;split at hg
   ·rename_i h1;have e0:=c6.ck _ h0;have e1:=c6.ck _ h1;rw [←e0,←e1];generalize c6.dec cs=s at hg ⊢;generalize c6.dec ds=p at hg ⊢;obtain ⟨⟨a1,a2,a3⟩,hg⟩:=hg;exact ⟨⟨a1,a2,a3⟩,hg⟩
   ·exact hg.elim
  ·exact hg.elim
 ·exact hg.elim
noncomputable def IZ:aQ cod:=(46,.p Lo)::MN
noncomputable def sH:aT cod:=c9 IZ
theorem kG:cv Tryz.prog cod IZ:=.cons KR I0
noncomputable def mW:bA:=[(4,[9,10,11],1)]
theorem abO (l:List (Int×Int×Int×Int×Int×Int)) (aA:Bool):aI sH mW Tryz.f45.results.toList 1 400 [.code (aj Tryz.f45)] ⟨ay Tryz.f45 [.c (.ai 0 0 l.length aA)],([.aB 2 l]:Heap cod)⟩=
 (let q0:=List.length l;
 cond (decide (1024 < Int.ofNat q0)) (.ret (.fin (.c (.int .i64 2)) [])) (.ret (.cut (cutAt Tryz.f45 4) ⟨bc 9 [(9,.c (.ai 0 0 q0 aA)),(0,.c (.int .i64 (Int.ofNat q0))),(0,.c (.int .i64 0))],[.aB 2 l]⟩))):=by kernel_rfl
noncomputable def HH (l:List (Int×Int×Int×Int×Int×Int)) (aA:Bool) (i:Int):St cod:=⟨bc 9 [(9,.c (.ai 0 0 l.length aA)),(0,.c (.int .i64 (Int.ofNat l.length))),(0,.c (.int .i64 i))],[.aB 2 l]⟩
theorem Tc (l:List (Int×Int×Int×Int×Int×Int)) (aA:Bool) (i:Int):aI sH mW Tryz.f45.results.toList 1 400 (cutAt Tryz.f45 4) (HH l aA i)=
 (let q0:=List.getD l (0+Int.toNat i) (cod 2).d;
 let q1:=List.length l;
 cond (decide (i < Int.ofNat q1)) (.aa (((0:Int)≤i∧i < Int.ofNat q1)) (.aa (0+Int.toNat i < List.length l) (cond (!decide (F.qa q0.1 q0.2.1 q0.2.2.1 q0.2.2.2.1 q0.2.2.2.2.1 q0.2.2.2.2.2=0)) (.ret (.fin (.c (.int .i64 (F.qa q0.1 q0.2.1 q0.2.2.1 q0.2.2.2.1 q0.2.2.2.2.1 q0.2.2.2.2.2))) [])) (.aa (ae (i+1)) (.ret (.cut (cutAt Tryz.f45 4) ⟨bc 9 [(9,.c (.ai 0 0 q1 aA)),(0,.c (.int .i64 (Int.ofNat q1))),(0,.c (.int .i64 (i+1)))],[.aB 2 l]⟩)))))) (.ret (.fin (.c (.int .i64 0)) []))):=by kernel_rfl
theorem abN (l:List F.Sp) (aA:Bool) (hl:F.DU l) (b0:aC) (hb:b0.n=1):∀(r k:Nat),k+r=l.length→
 Sym.af Tryz.prog b0 (cutAt Tryz.f45 4) (HH l aA (k:Int)) (Sym.Ends Tryz.prog Tryz.f45 1 (.c (.int .i64 0)) []):=by
 intro r
 induction r with
 | zero=>
   intro k hk;refine af.go (cfg:=sH) kG mixed mW 400 hb (Tc l aA (k:Int)) ?_;simp only [T.wp,T.wp_cond,bF]
   exact ap (by rw [decide_eq_false (by simp only [Int.ofNat_eq_natCast];omega)];decide) ⟨trivial,trivial⟩
 | succ r ih=>
   intro k hk;have nx:=ih (k+1) (by omega);rw [Int.natCast_succ] at nx;have fx:k < l.length:=by omega
   have:=hl.1;have hp:F.RA (l.getD k F.dq)=0:=hl.2 _ (dM fx);refine af.go (cfg:=sH) kG mixed mW 400 hb (Tc l aA (k:Int)) ?_;simp only [T.wp,T.wp_cond,bF,Int.toNat_natCast,Nat.zero_add];refine aq (decide_eq_true (by simp only [Int.ofNat_eq_natCast];omega)) ⟨by simp only [Int.ofNat_eq_natCast];omega,fx,?_⟩
   refine ap (by
    change ¬(!decide (F.RA (l.getD k F.dq)=0))=true;rw [hp];decide) ⟨by unfold ae;omega,nx⟩
theorem X9 (l:List (Int×Int×Int×Int×Int×Int)) (aA:Bool) (b0:aC) (hb:b0.n=1) (h0:F.DU l):Sym.af Tryz.prog b0 [.code (aj Tryz.f45)] ⟨ay Tryz.f45 [.c (.ai 0 0 l.length aA)],([.aB 2 l]:Heap cod)⟩ (Sym.Ends Tryz.prog Tryz.f45 1 (.c (.int .i64 0)) []):=by
 refine af.go (cfg:=sH) kG mixed mW 400 hb (abO l aA) ?_;have:=h0.1;simp only [T.wp,T.wp_cond,bF];exact ap (by rw [decide_eq_false (by simp only [Int.ofNat_eq_natCast];omega)];decide) (abN l aA h0 b0 hb l.length 0 (by omega))
noncomputable def Wa:aH cod:=fun args H=>match args,H with
 | [.c (.ai 0 cF cA _)],[o0]=>(match o0.cV 2 with | some l=>.aa ((cF=0∧cA=List.length l)∧(F.DU l)) (.ret (.c (.int .i64 0),[])) | none=>.fail)
 | _,_=>.fail
theorem OI:Sound Tryz.prog cod 45 Wa:=ax (cfg:=sH) kG mixed Tryz.func45 rfl rfl _ fun args H r news hg b0 hb=>by
 unfold Wa at hg;split at hg
 ·skip
  split at hg
  ·rename_i l gG;cases aR gG;simp only [T.ah,T.wp,Prod.mk.injEq] at hg;obtain ⟨⟨⟨rfl,rfl⟩,q1⟩,rfl,rfl⟩:=hg;exact X9 _ _ b0 hb (by assumption)
  ·exact hg.elim
 ·exact hg.elim
noncomputable def R3:aQ cod:=(45,.p Wa)::IZ
noncomputable def qq:aT cod:=c9 R3
theorem jm:cv Tryz.prog cod R3:=.cons OI kG
noncomputable def dU:bA:=[(9,[8,0,25,26,27],4),(12,[8,10,31,0,25,26,27,32,33],5)]
theorem P7 (l:List (Int×Int×Int×Int×Int×Int)) (aA:Bool) (ps:List (Int×Int×Int×Int×Int×Int)) (gj:Bool):aI qq dU Tryz.f21.results.toList 2 400 [.code (aj Tryz.f21)] ⟨ay Tryz.f21 [.c (.ai 0 0 l.length aA),.c (.ai 1 0 ps.length gj)],([.aB 2 l,.aB 2 ps]:Heap cod)⟩=
.aa ((0=0∧List.length l=List.length l)) (
 cond (!decide (F.rA l=0)) (
 .ret (.fin (.aP [.c (.own 2 0),.c (.int .i64 (F.rA l))]) [.own 2 [] 42])) (
 .aa (((0=0∧List.length ps=List.length ps)∧F.DU ps)) (
 .ret (.cut (cutAt Tryz.f21 9) ⟨bc 29 [(0,.c (.ai 0 0 l.length aA)),(7,.c (.own 3 0)),(16,.c (.ai 1 0 ps.length gj)),(0,.c (.int .i64 (Int.ofNat ps.length))),(0,.c (.int .i64 0))],[.aB 2 l,.aB 2 ps,.own 2 [] 42,.own 2 [] 42]⟩)))):=by kernel_rfl
noncomputable def nP (l:List (Int×Int×Int×Int×Int×Int)) (aA:Bool) (ps:List (Int×Int×Int×Int×Int×Int)) (gj:Bool) (out:List (Int×Int×Int×Int×Int×Int)) (on:Nat) (k:Int):St cod:=⟨bc 29 [(0,.c (.ai 0 0 l.length aA)),(7,.c (.own 3 on)),(16,.c (.ai 1 0 ps.length gj)),(0,.c (.int .i64 (Int.ofNat ps.length))),(0,.c (.int .i64 k))],([.aB 2 l,.aB 2 ps,.own 2 [] 42,.own 2 out 42]:Heap cod)⟩
theorem BP (l:List (Int×Int×Int×Int×Int×Int)) (aA:Bool) (ps:List (Int×Int×Int×Int×Int×Int)) (gj:Bool) (out:List (Int×Int×Int×Int×Int×Int)) (on:Nat) (k:Int):aI qq dU Tryz.f21.results.toList 2 400 (cutAt Tryz.f21 9) (nP l aA ps gj out on k)=
 (let q0:=List.getD ps (0+Int.toNat k) (cod 2).d;
 let q1:=List.length ps;
 let q2:=List.length l;
 cond (decide (k < Int.ofNat q1)) (.aa (((0:Int)≤k∧k < Int.ofNat q1)) (.aa (0+Int.toNat k < List.length ps) (.ret (.cut (cutAt Tryz.f21 12) ⟨bc 23 [(0,.c (.ai 0 0 q2 aA)),(7,.c (.own 3 (on))),(1,.c (.ptr 4 0 0)),(14,.c (.ai 1 0 q1 gj)),(0,.c (.int .i64 (Int.ofNat q1))),(0,.c (.int .i64 k)),(3,.c (.ai 0 0 q2 aA)),(0,.c (.int .i64 (Int.ofNat q2))),(0,.c (.int .i64 0))],[.aB 2 l,.aB 2 ps,.own 2 [] 42,.own 2 out 42,.aF [.int .i64 (q0.1),.int .i64 (q0.2.1),.int .i64 (q0.2.2.1),.int .i64 (q0.2.2.2.1),.int .i64 (q0.2.2.2.2.1),.int .i64 (q0.2.2.2.2.2)] 68]⟩)))) (.ret (.fin (.aP [.c (.own 2 (on)),.c (.int .i64 0)]) [.own 2 out 42]))):=by kernel_rfl
noncomputable def rT (l:List (Int×Int×Int×Int×Int×Int)) (aA:Bool) (ps:List (Int×Int×Int×Int×Int×Int)) (gj:Bool) (out:List (Int×Int×Int×Int×Int×Int)) (on:Nat) (k:Int) (p:Int×Int×Int×Int×Int×Int) (m:Int):St cod:=⟨bc 23 [(0,.c (.ai 0 0 l.length aA)),(7,.c (.own 3 on)),(1,.c (.ptr 4 0 0)),(14,.c (.ai 1 0 ps.length gj)),(0,.c (.int .i64 (Int.ofNat ps.length))),(0,.c (.int .i64 k)),(3,.c (.ai 0 0 l.length aA)),(0,.c (.int .i64 (Int.ofNat l.length))),(0,.c (.int .i64 m))],([.aB 2 l,.aB 2 ps,.own 2 [] 42,.own 2 out 42,.aF [.int .i64 p.1,.int .i64 p.2.1,.int .i64 p.2.2.1,.int .i64 p.2.2.2.1,.int .i64 p.2.2.2.2.1,.int .i64 p.2.2.2.2.2] 68]:Heap cod)⟩
theorem yD (l:List (Int×Int×Int×Int×Int×Int)) (aA:Bool) (ps:List (Int×Int×Int×Int×Int×Int)) (gj:Bool) (out:List (Int×Int×Int×Int×Int×Int)) (on:Nat) (k:Int) (p:Int×Int×Int×Int×Int×Int) (m:Int):aI qq dU Tryz.f21.results.toList 2 400 (cutAt Tryz.f21 12) (rT l aA ps gj out on k p m)=
 (let q0:av cod:=.aF [.int .i64 p.1,.int .i64 p.2.1,.int .i64 p.2.2.1,.int .i64 p.2.2.2.1,.int .i64 p.2.2.2.2.1,.int .i64 p.2.2.2.2.2] 68;
 let q1:=List.length l;
 let q2:=List.getD l (0+Int.toNat m) (cod 2).d;
 let q3:=List.length ps;
 let q4:=Int.ofNat q3;
 cond (decide (m < Int.ofNat q1)) (.aa (((0:Int)≤m∧m < Int.ofNat q1)) (.aa (0+Int.toNat m < List.length l) (cond (!decide (q2.1=p.1)) (.aa (ae (m+1)) (.ret (.cut (cutAt Tryz.f21 12) ⟨bc 23 [(0,.c (.ai 0 0 q1 aA)),(7,.c (.own 3 (on))),(1,.c (.ptr 4 0 0)),(14,.c (.ai 1 0 q3 gj)),(0,.c (.int .i64 q4)),(0,.c (.int .i64 k)),(3,.c (.ai 0 0 q1 aA)),(0,.c (.int .i64 (Int.ofNat q1))),(0,.c (.int .i64 (m+1)))],[.aB 2 l,.aB 2 ps,.own 2 [] 42,.own 2 out 42,q0]⟩))) (.aa (F.afF q2 p) (cond (decide (F.yP q2 p=0)) (.aa (1=1) (.aa (on+1≤1000000) (.aa (ae (m+1)) (.ret (.cut (cutAt Tryz.f21 12) ⟨bc 23 [(0,.c (.ai 0 0 q1 aA)),(7,.c (.own 3 (on+1))),(1,.c (.ptr 4 0 0)),(14,.c (.ai 1 0 q3 gj)),(0,.c (.int .i64 q4)),(0,.c (.int .i64 k)),(3,.c (.ai 0 0 q1 aA)),(0,.c (.int .i64 (Int.ofNat q1))),(0,.c (.int .i64 (m+1)))],[.aB 2 l,.aB 2 ps,.own 2 [] 42,.own 2 (out++([F.Xy q2 p])) 42,q0]⟩))))) (.aa (ae (m+1)) (.ret (.cut (cutAt Tryz.f21 12) ⟨bc 23 [(0,.c (.ai 0 0 q1 aA)),(7,.c (.own 3 (on))),(1,.c (.ptr 4 0 0)),(14,.c (.ai 1 0 q3 gj)),(0,.c (.int .i64 q4)),(0,.c (.int .i64 k)),(3,.c (.ai 0 0 q1 aA)),(0,.c (.int .i64 (Int.ofNat q1))),(0,.c (.int .i64 (m+1)))],[.aB 2 l,.aB 2 ps,.own 2 [] 42,.own 2 out 42,q0]⟩)))))))) (.aa (ae (k+1)) (.ret (.cut (cutAt Tryz.f21 9) ⟨bc 29 [(0,.c (.ai 0 0 q1 aA)),(7,.c (.own 3 (on))),(16,.c (.ai 1 0 q3 gj)),(0,.c (.int .i64 q4)),(0,.c (.int .i64 (k+1)))],[.aB 2 l,.aB 2 ps,.own 2 [] 42,.own 2 out 42]⟩)))):=by kernel_rfl
theorem N3 (p:F.Sp):∀(l out:List F.Sp),out.length≤(F.Ik p l out).length∧(F.Ik p l out).length≤out.length+l.length
 | [],out=>⟨Nat.le_refl _,Nat.le_refl _⟩
 | s::l,out=>by
   have ih:=N3 p l (if s.1=p.1∧F.yP s p=0 then out++[F.Xy s p] else out);unfold F.Ik;rw [List.length_cons];split at ih
   ·rename_i h;rw [if_pos h];rw [List.length_append,List.length_singleton] at ih;omega
   ·rename_i h;rw [if_neg h];omega
theorem Kw (l:List F.Sp) (aA:Bool) (ps:List F.Sp) (gj:Bool) (hl:F.rA l=0) (b0:aC) (hb:b0.n=2) (R:SV) (N:Heap cod) (k:Int) (hk:0≤k∧k≤1000) (p:F.Sp) (hp:F.RA p=0) (O:List F.Sp)
 (nx:∀on,on=O.length→Sym.af Tryz.prog b0 (cutAt Tryz.f21 9) (nP l aA ps gj O on (k+1)) (Sym.Ends Tryz.prog Tryz.f21 2 R N)):∀(r m:Nat) (out:List F.Sp) (on:Nat),on=out.length→m+r=l.length→on+r≤1000→F.Ik p (l.drop m) out=O→
 Sym.af Tryz.prog b0 (cutAt Tryz.f21 12) (rT l aA ps gj out on k p (m:Int)) (Sym.Ends Tryz.prog Tryz.f21 2 R N):=by
 intro r
 induction r with
 | zero=>
   intro m out on ru hm hr hO;rw [List.drop_eq_nil_of_le (by omega),F.Ik] at hO;subst hO;refine af.go (cfg:=qq) jm mixed dU 400 hb (yD l aA ps gj out on k p (m:Int)) ?_;simp only [T.wp,T.wp_cond,bF]
   exact ap (by rw [decide_eq_false (by simp only [Int.ofNat_eq_natCast];omega)];decide) ⟨by unfold ae;omega,nx on ru⟩
 | succ r ih=>
   intro m out on ru hm hr hO;have Ru:m < l.length:=by omega
   obtain ⟨h4,hs⟩:=BM hl;have No:=hs m Ru;rw [uQ l F.dq m Ru,F.Ik] at hO;have ki:ae ((m:Int)+1):=by unfold ae;omega
   refine af.go (cfg:=qq) jm mixed dU 400 hb (yD l aA ps gj out on k p (m:Int)) ?_;simp only [T.wp,T.wp_cond,bF,Int.toNat_natCast,Nat.zero_add];have ed:(cod 2).d=F.dq:=rfl;have ed2:F.d6=F.dq:=rfl;rw [ed2] at No;rw [ed];generalize l.getD m F.dq=s at*;refine aq (decide_eq_true (by simp only [Int.ofNat_eq_natCast];omega)) ⟨by simp only [Int.ofNat_eq_natCast];omega,Ru,?_⟩;by_cases c1:s.1=p.1
   ·refine ap (by rw [decide_eq_true c1];decide) ⟨⟨No,hp,c1.symm⟩,?_⟩;by_cases c2:F.yP s p=0
    ·rw [if_pos ⟨c1,c2⟩] at hO;have fK:=ih (m+1) (out++[F.Xy s p]) (on+1) (by rw [List.length_append,List.length_singleton,ru]) (by omega) (by omega) hO;rw [Int.natCast_succ] at fK;exact aq (decide_eq_true c2) ⟨trivial,by omega,ki,fK⟩
    ·rw [if_neg (fun q=>c2 q.2)] at hO;have fK:=ih (m+1) out on ru (by omega) (by omega) hO;rw [Int.natCast_succ] at fK;exact ap (by rw [decide_eq_false c2];decide) ⟨ki,fK⟩
   ·rw [if_neg (fun q=>c1 q.1)] at hO;have fK:=ih (m+1) out on ru (by omega) (by omega) hO;rw [Int.natCast_succ] at fK;exact aq (by rw [decide_eq_false c1];decide) ⟨ki,fK⟩
theorem P6 (l:List F.Sp) (aA:Bool) (ps:List F.Sp) (gj:Bool) (hl:F.rA l=0) (hps:F.DU ps) (YN:ps.length≤100) (b0:aC) (hb:b0.n=2) (R:SV) (N:Heap cod):∀(r k:Nat) (out:List F.Sp) (on:Nat),on=out.length→k+r=ps.length→on≤4*k→
 (.aP [.c (.own 2 (F.E0 l (ps.drop k) out).length),.c (.int .i64 0)]=R∧[.own 2 (F.E0 l (ps.drop k) out) 42]=N)→
 Sym.af Tryz.prog b0 (cutAt Tryz.f21 9) (nP l aA ps gj out on (k:Int)) (Sym.Ends Tryz.prog Tryz.f21 2 R N):=by
 intro r
 induction r with
 | zero=>
   intro k out on ru hk h4 hR;rw [List.drop_eq_nil_of_le (by omega),F.E0,←ru] at hR;refine af.go (cfg:=qq) jm mixed dU 400 hb (BP l aA ps gj out on (k:Int)) ?_;simp only [T.wp,T.wp_cond,bF]
   exact ap (by rw [decide_eq_false (by simp only [Int.ofNat_eq_natCast];omega)];decide) hR
 | succ r ih=>
   intro k out on ru hk h4 hR;have fx:k < ps.length:=by omega
   have hp:F.RA (ps.getD k F.dq)=0:=hps.2 _ (dM fx);obtain ⟨hl4,_⟩:=BM hl;rw [uQ ps F.dq k fx,F.E0] at hR;refine af.go (cfg:=qq) jm mixed dU 400 hb (BP l aA ps gj out on (k:Int)) ?_;simp only [T.wp,T.wp_cond,bF,Int.toNat_natCast,Nat.zero_add];have len:=N3 (ps.getD k F.dq) l out;refine aq (decide_eq_true (by simp only [Int.ofNat_eq_natCast];omega)) ⟨by simp only [Int.ofNat_eq_natCast];omega,fx,?_⟩;refine Kw l aA ps gj hl b0 hb R N (k:Int) (by omega) (ps.getD k F.dq) hp (F.Ik (ps.getD k F.dq) l out) (fun on' ah0=>?_) l.length 0 out on ru (by omega) (by omega) rfl;have nx:=ih (k+1) (F.Ik (ps.getD k F.dq) l out) on' ah0 (by omega) (by omega) hR;rw [Int.natCast_succ] at nx;exact nx
theorem Kx (l:List (Int×Int×Int×Int×Int×Int)) (aA:Bool) (ps:List (Int×Int×Int×Int×Int×Int)) (gj:Bool) (b0:aC) (hb:b0.n=2) (h0:F.rA l=0) (h1:F.DU ps) (h2:List.length ps≤100):Sym.af Tryz.prog b0 [.code (aj Tryz.f21)] ⟨ay Tryz.f21 [.c (.ai 0 0 l.length aA),.c (.ai 1 0 ps.length gj)],([.aB 2 l,.aB 2 ps]:Heap cod)⟩ (Sym.Ends Tryz.prog Tryz.f21 2 (.aP [.c (.own 2 (F.E0 l ps []).length),.c (.int .i64 0)]) [.own 2 (F.E0 l ps []) 42]):=by
 refine af.go (cfg:=qq) jm mixed dU 400 hb (P7 l aA ps gj) ?_;simp only [T.wp,T.wp_cond,bF];exact ⟨⟨trivial,trivial⟩,ap (by rw [h0];decide) ⟨⟨⟨trivial,trivial⟩,h1⟩,P6 l aA ps gj h0 h1 h2 b0 hb _ _ ps.length 0 [] 0 rfl (by omega) (by omega) ⟨rfl,rfl⟩⟩⟩
noncomputable def y5:aH cod:=fun args H=>match args,H with
 | [.c (.ai 0 cF cA _),.c (.ai 1 aiw aix _)],[o0,o1]=>(match o0.cV 2 with | some l=>(match o1.cV 2 with | some ps=>.aa ((cF=0∧cA=List.length l)∧(aiw=0∧aix=List.length ps)∧(F.rA l=0)∧(F.DU ps)∧(List.length ps≤100)) (.ret (.aP [.c (.own 2 (F.E0 l ps []).length),.c (.int .i64 0)],[.own 2 (F.E0 l ps []) 42])) | none=>.fail) | none=>.fail)
 | _,_=>.fail
theorem DP:Sound Tryz.prog cod 21 y5:=ax (cfg:=qq) jm mixed Tryz.func21 rfl rfl _ fun args H r news hg b0 hb=>by
 unfold y5 at hg;split at hg
 ·skip
  split at hg
  ·rename_i l gG;cases aR gG;split at hg
   ·rename_i ps yo;cases aR yo;simp only [T.ah,T.wp,Prod.mk.injEq] at hg;obtain ⟨⟨⟨rfl,rfl⟩,⟨rfl,rfl⟩,q2,q3,q4⟩,rfl,rfl⟩:=hg;exact Kx _ _ _ _ b0 hb (by assumption) (by assumption) (by assumption)
   ·exact hg.elim
  ·exact hg.elim
 ·exact hg.elim
noncomputable def wU:aQ cod:=(21,.p y5)::R3
noncomputable def wB:aT cod:=c9 wU
theorem mM:cv Tryz.prog cod wU:=.cons DP jm
namespace F
noncomputable def G3 (t:dT) (s:Sp) (band:Int):Prop:=ctk t=0∧RD s=0∧(0≤band∧band≤60000)∧t.tm=s.1
noncomputable def fit (t:dT) (s:Sp) (band:Int):Bool:=(de (t.ra+s.2.2.2.2.2) 0 8000000&&decide (iw t.x t.y s.2.1 s.2.2.1≤(t.ra+s.2.2.2.2.2)*(t.ra+s.2.2.2.2.2)))&&(decide (max (t.hg - s.2.2.2.1) (s.2.2.2.1 - t.hg)≤band)&&(decide (t.cd=s.2.2.2.2.1)||decide (t.cd= -1)||decide (s.2.2.2.2.1= -1)))
end F
theorem zQ {t x y h ra c:Int} (e:F.lC t x y h ra c=0):(0≤t∧t≤200000)∧(-1000000≤x∧x≤1000000)∧(-1000000≤y∧y≤1000000)∧(0≤h∧h≤60000)∧(0≤ra∧ra≤4000000)∧(-1≤c∧c≤4095):=by
 unfold F.lC F.cP F.de at e;split at e
 ·simp only [Bool.and_eq_true,decide_eq_true_eq] at*;omega
 ·cases e
noncomputable def Bg:bA:=[]
theorem YD (t:F.dT) (s:Int×Int×Int×Int×Int×Int) (band:Int):aI wB Bg Tryz.f59.results.toList 0 400 [.code (aj Tryz.f59)] ⟨ay Tryz.f59 [.agg (X6.enc t),.agg (c6.enc s),.c (.int .i64 band)],([]:Heap cod)⟩=
 cond (!decide (F.ctk t=0)) (
 .ret (.fin (.aP [.c (.bool false),.c (.int .i64 (F.ctk t))]) [])) (
 cond (!decide (F.spot s.1 s.2.1 s.2.2.1 s.2.2.2.1 s.2.2.2.2.1 s.2.2.2.2.2=0)) (
  .ret (.fin (.aP [.c (.bool false),.c (.int .i64 (F.spot s.1 s.2.1 s.2.2.1 s.2.2.2.1 s.2.2.2.2.1 s.2.2.2.2.2))]) [])) (
  cond (decide (band < 0)) (
   .ret (.fin (.aP [.c (.bool false),.c (.int .i64 4)]) [])) (
   cond (decide (60000 < band)) (
    .ret (.fin (.aP [.c (.bool false),.c (.int .i64 4)]) [])) (
    cond (!decide (t.tm=s.1)) (
     .ret (.fin (.aP [.c (.bool false),.c (.int .i64 12)]) [])) (
     .aa (ae (t.ra+s.2.2.2.2.2)) (
     .aa ((F.b9 t.x∧(F.b9 t.y∧(F.b9 s.2.1∧F.b9 s.2.2.1)))) (
     cond (F.de (t.ra+s.2.2.2.2.2) 0 8000000&&decide (F.iw t.x t.y s.2.1 s.2.2.1≤(t.ra+s.2.2.2.2.2)*(t.ra+s.2.2.2.2.2))) (
      .aa (ae (t.hg - s.2.2.2.1)) (
      .aa (ae (s.2.2.2.1 - t.hg)) (
      cond (decide (max (t.hg - s.2.2.2.1) (s.2.2.2.1 - t.hg)≤band)) (
       cond (decide (t.cd=s.2.2.2.2.1)) (
        .ret (.fin (.aP [.c (.bool true),.c (.int .i64 0)]) [])) (
        cond (decide (t.cd= -1)) (
         .ret (.fin (.aP [.c (.bool true),.c (.int .i64 0)]) [])) (
         .ret (.fin (.aP [.c (.bool (decide (s.2.2.2.2.1= -1))),.c (.int .i64 0)]) [])))) (
       .ret (.fin (.aP [.c (.bool false),.c (.int .i64 0)]) []))))) (
      .ret (.fin (.aP [.c (.bool false),.c (.int .i64 0)]) []))))))))):=by kernel_rfl
theorem TW (t:F.dT) (s:Int×Int×Int×Int×Int×Int) (band:Int) (b0:aC) (hb:b0.n=0) (h0:F.G3 t s band):Sym.af Tryz.prog b0 [.code (aj Tryz.f59)] ⟨ay Tryz.f59 [.agg (X6.enc t),.agg (c6.enc s),.c (.int .i64 band)],([]:Heap cod)⟩ (Sym.Ends Tryz.prog Tryz.f59 0 (.aP [.c (.bool (F.fit t s band)),.c (.int .i64 0)]) []):=by
 obtain ⟨g1,g2,g3,g4⟩:=h0;obtain ⟨p1,p2,p3,p4,p5,p6⟩:=lz g2;have Pn:=g1;unfold F.ctk at Pn;obtain ⟨k1,k2,k3,k4,k5,k6⟩:=zQ Pn;have Ro:F.spot s.1 s.2.1 s.2.2.1 s.2.2.2.1 s.2.2.2.2.1 s.2.2.2.2.2=0:=g2;refine af.go (cfg:=wB) mM mixed Bg 400 hb (YD t s band) ?_;unfold F.fit;simp only [T.wp,T.wp_cond,bF];refine ap (by rw [g1];decide) (ap (by rw [Ro];decide) (ap (by rw [decide_eq_false (by omega)];decide) (ap (by rw [decide_eq_false (by omega)];decide) (ap (by rw [decide_eq_true g4];decide) ⟨by unfold ae;omega,⟨by unfold F.b9;omega,by unfold F.b9;omega,by unfold F.b9;omega,by unfold F.b9;omega⟩,?_⟩))))
 cases (F.de (t.ra+s.2.2.2.2.2) 0 8000000&&decide (F.iw t.x t.y s.2.1 s.2.2.1≤(t.ra+s.2.2.2.2.2)*(t.ra+s.2.2.2.2.2))) with
 | false=>exact ap (by decide) ⟨rfl,trivial⟩
 | true=>
   refine aq rfl ⟨by unfold ae;omega,by unfold ae;omega,?_⟩
   cases decide (max (t.hg - s.2.2.2.1) (s.2.2.2.1 - t.hg)≤band) with
   | false=>exact ap (by decide) ⟨rfl,trivial⟩
   | true=>
     refine aq rfl ?_
     cases decide (t.cd=s.2.2.2.2.1) with
     | true=>exact aq rfl ⟨rfl,trivial⟩
     | false=>
       refine ap (by decide) ?_
       cases decide (t.cd= -1) with
       | true=>exact aq rfl ⟨rfl,trivial⟩
       | false=>
         refine ap (by decide) ⟨?_,trivial⟩;cases decide (s.2.2.2.2.1= -1)<;>rfl
noncomputable def K9:aH cod:=fun args H=>match args,H with
 | [.agg afS,.agg afM,.c (.int .i64 band)],[]=>(match X6.ok afS with | true=>(fun t:F.dT=>(match c6.ok afM with | true=>(fun s:Int×Int×Int×Int×Int×Int=>.aa ((F.G3 t s band)) (.ret (.aP [.c (.bool (F.fit t s band)),.c (.int .i64 0)],[]))) (c6.dec afM) | false=>.fail)) (X6.dec afS) | false=>.fail)
 | _,_=>.fail
theorem JR:Sound Tryz.prog cod 59 K9:=ax (cfg:=wB) mM mixed Tryz.func59 rfl rfl _ fun args H r news hg b0 hb=>by
 unfold K9 at hg;split at hg
 ·skip
  split at hg
  ·rename_i ahL;obtain ⟨t,rfl,ahc⟩:=aO.back ahL;rw [ahc] at hg
   try dsimp only at hg
   split at hg
   ·rename_i ahK;obtain ⟨s,rfl,ahb⟩:=aO.back ahK;rw [ahb] at hg
    try dsimp only at hg
    simp only [T.ah,T.wp,Prod.mk.injEq] at hg;obtain ⟨q0,rfl,rfl⟩:=hg;exact TW _ _ _ b0 hb (by assumption)
   ·exact hg.elim
  ·exact hg.elim
 ·exact hg.elim
noncomputable def IQ:aQ cod:=(59,.p K9)::wU
noncomputable def gq:aT cod:=c9 IQ
theorem fj:cv Tryz.prog cod IQ:=.cons JR mM
end
end
namespace Sym
open Go.RowKit
section
variable {cod:Nat→aO}
noncomputable def uB (P:Program) (b0:aC) (o:Oper) (st bg:St cod):Prop:=∀(a:Act) (w:World) (K:Act→World→Prop) (Q:Exit→Act→World→Prop),Rel st b0 a w→(∀a' w',Rel bg b0 a' w'→K a' w')→o.wp P a w K Q
noncomputable def lH (P:Program) (b0:aC):List Oper→St cod→St cod→Prop
 | [],st,bg=>bg=st
 | o::l,st,bg=>o.guard=none∧∃s,uB P b0 o st s∧lH P b0 l s bg
theorem FE {P:Program} {b0:aC} {ops:Array Oper} {Q:Exit→Act→World→Prop}:∀(l:List Oper) (st bg:St cod) (a:Act) (w:World),lH P b0 l st bg→Rel st b0 a w→(∀a' w',Rel bg b0 a' w'→Q .normal a' w')→wpList P ops Q l a w
 | [],st,bg,a,w,h,hR,hQ=>by
   have h:bg=st:=h;subst h
   exact hQ a w hR
 | o::l,st,bg,a,w,h,hR,hQ=>by
   obtain ⟨hg,s,h1,h2⟩:=h;unfold wpList;rw [if_pos (by simp [Region.wanted,hg])];exact .inl (h1 a w _ _ hR fun a' w' nv=>FE l s bg a' w' h2 nv hQ)
theorem lH.append {P:Program} {b0:aC}:∀{l m:List Oper} {st s bg:St cod},lH P b0 l st s→lH P b0 m s bg→lH P b0 (l++m) st bg
 | [],_,_,_,_,h,k=>by
   have h:_=_:=h;subst h
   exact k
 | _::l,_,_,_,_,⟨hg,s,h1,h2⟩,k=>⟨hg,s,h1,lH.append h2 k⟩
theorem WZ {cfg:aT cod} (hS:eL cfg) {b0:aC} {o:Oper} {st bg:St cod} (h:(mv cfg o st).ah bg):uB cfg.P b0 o st bg:=fun a w K Q hR hK=>
 zM hS.ok (Fb.none hS.2.2 _ _) (fun k ⟨⟨d,hd⟩,_⟩=>by rw [hS.2.2 d] at hd;cases hd) h hR hK
theorem pR {cfg:aT cod} (hS:eL cfg) {b0:aC}:∀(l:List Oper) (st bg:St cod),(∀o∈l,o.guard=none)→(lT cfg l st).ah bg→lH cfg.P b0 l st bg
 | [],_,_,_,h=>h.symm
 | o::l,st,bg,hg,h=>by
   unfold lT at h;rw [T.aw] at h;obtain ⟨s,h1,h2⟩:=h;exact ⟨hg o (List.mem_cons_self ..),s,WZ hS h1,pR hS l s bg (fun o ho=>hg o (List.mem_cons_of_mem _ ho)) h2⟩
theorem af.mid {cfg:aT cod} (hS:eL cfg) {b0:aC} {id:Nat} {ops:Array Oper} {L k:List Item} (hL:L= .code (.region id ops false)::k) {l1 l2:List Oper} {o:Oper} (Uw:ops.toList=l1++o::l2) (hg:(ops.toList.all fun o=>o.guard.isNone)=true) {st:St cod} {Q:St cod→Prop}
 {t1:T (St cod)} (h1:Sym.lT cfg l1 st=t1) (h:t1.wp fun s=>∃s',uB cfg.P b0 o s s'∧(Sym.lT cfg l2 s').wp fun s2=>af cfg.P b0 k s2 Q):af cfg.P b0 L st Q:=by
 subst hL;subst h1;obtain ⟨s,g1,s',g2,g3⟩:=T.jP h;obtain ⟨s2,g4,hr⟩:=T.jP g3;have gn:∀o∈ops.toList,o.guard=none:=fun o ho=>by simpa using List.all_eq_true.1 hg o ho
 rw [Uw] at gn
 have Gk:lH cfg.P b0 ops.toList st s2:=by
  rw [Uw];exact (pR hS l1 st s (fun o ho=>gn o (by simp [ho])) g1).append ⟨gn o (by simp),s',g2,pR hS l2 s' s2 (fun o ho=>gn o (by simp [ho])) g4⟩
 intro b cs a w hR;have hw:(Code.region id ops false).wp cfg.P (fun e a' w'=>e= .normal∧Rel s2 b0 a' w') a w:=wp_region_list (FE ops.toList st s2 a w Gk hR fun a' w' nv=>⟨rfl,nv⟩);obtain ⟨e,a',w',⟨rfl,nv⟩,Dy⟩:=hw b k cs;obtain ⟨x,XO,RG,todo,q1,q2,q3⟩:=hr b cs a' w' nv;exact ⟨x,XO,RG,todo,q1,q2,Steps.trans Dy q3⟩
theorem HW {P:Program} {b0:aC} {o:Oper} {st:St cod} {out:Out cod}
 (YY:∀(env:Env) (w:World) (ρ:Operand→Value),Good env st.heap w b0.Ar→(∀k,w.heap.size≤k→b0.Ar k)→(∀x,aS env st.heap.length (cD st.tmps x) (ρ x))→iL P (fw env st.heap w b0.Ar out) ((execOp ρ o).run P w))
 (hk:∀k∈out.kill,b0.n≤k) (ho:∀(k:Nat) (x:av cod),k < b0.n→out.H[k]? =some x→x.bQ=true→∃y,st.heap[k]? =some y∧y.bQ=true):uB P b0 o st (st.put o.dst out):=by
 intro a w K Q hR hK;obtain ⟨env,hF,hd,G,hb,so,zZ,tC⟩:=hR;refine G7 (YY env w a.eval G (fun k hk=>b0.new k (Nat.le_trans hb.size hk)) (xY hF)) fun v w' ⟨aK,he,hN,hv,G',eG⟩=>hK _ _ ⟨aK,D6 hF (fun v Nr k Rt fx Kd=>he k fx Kd) hN hv,by rw [put_defers];exact hd,G',hb.trans eG,fun k tE hn=>?_,?_,fun k x h1 hx dS=>?_⟩
 ·rw [he k (by omega) (fun e=>by have:=hk k e;omega)];exact so k tE hn
 ·exact Nat.le_trans zZ hN
 ·obtain ⟨y,hy,UF⟩:=ho k x h1 hx dS;exact tC k y h1 hy UF
noncomputable def St.pf (d t:Nat) (ty tyr:TypeId) (st:St cod):St cod:={tmps:=st.tmps.set d (.c (.own st.heap.length 0)),heap:=st.heap++[.cj t [] [] [] ty tyr]}
theorem PU {st:St cod} {b:aC} {a:Act} {w:World} (d t:Nat) (ty tyr:TypeId) (hd0:st.tmps[d]? =some (.c .nil)) (hR:Rel st b a w):Rel (st.pf d t ty tyr) b a w:=by
 obtain ⟨env,hF,hd,G,gY,so,zZ,tC⟩:=hR;have z6:=Env.l6 env st.heap.length (⟨0,0,1,.slice none 0 0,[]⟩:HV)
 have dN:bH (env.set st.heap.length ⟨0,0,1,.slice none 0 0,[]⟩) (st.heap.length+1) ⟨0,0,1,.slice none 0 0,[]⟩ w b.Ar (.cj t [] [] [] ty tyr:av cod):=by
  refine ⟨rfl,rfl,⟨rfl,rfl⟩,⟨[],⟨rfl,.inl ⟨rfl,rfl⟩⟩,fun j _=>.inl rfl,fun q j c hj _=>by simp at hj⟩,fun b hb=>by simp [Value.ownBlock] at hb,fun A n c h=>by simp at h,fun j v l _ hv _=>by simp at hv,fun j k v u b _ _ _ hv=>by simp at hv⟩
 have G':=G.push ⟨0,0,1,.slice none 0 0,[]⟩ (.cj t [] [] [] ty tyr) (Nat.le_refl _) (fun _ _=>rfl) dN (fun c hc=>by
  rcases hc with hc | ⟨j,v,hv,_⟩
  ·simp [Value.ownBlock] at hc
  ·simp at hv)
 refine ⟨env.set st.heap.length ⟨0,0,1,.slice none 0 0,[]⟩,?_,hd,by simpa [St.pf] using G',gY,fun h h1 h2=>?_,?_,fun h o h1 hj dS=>?_⟩
 ·have hlen:(st.pf d t ty tyr).heap.length=st.heap.length+1:=by simp [St.pf]
  rw [hlen];obtain ⟨v,hv,hvr⟩:=pW hF hd0;have hvn:v= .slice none 0 0:=hvr;subst hvn;have hF':=ee (fun _ _ hr=>oM (N':=st.heap.length+1) (by omega) z6 hr) hF
  have hc:aS (env.set st.heap.length ⟨0,0,1,.slice none 0 0,[]⟩) (st.heap.length+1) (.c (.own st.heap.length 0)) (.slice none 0 0):=by
   refine ⟨by omega,by rw [Env.aU],none,0,rfl,Nat.le_refl _,Nat.zero_le _,fun h=>by omega⟩
  have hs:=xZ hc d hF'
  have e:a.tmps.toList.set d (.slice none 0 0)=a.tmps.toList:=by
   obtain ⟨hl,hx⟩:=List.getElem?_eq_some_iff.1 hv;rw [←hx];exact List.set_getElem_self hl
  rw [e] at hs;exact hs
 ·rw [Env.aD _ _ (by omega)];exact so h h1 h2
 ·simp only [St.pf,List.length_append,List.length_singleton];omega
 ·simp only [St.pf] at hj;rw [List.getElem?_append_left (by omega)] at hj;exact tC h o h1 hj dS
theorem af.pf {P:Program} {b0:aC} {kk:List Item} {st:St cod} {Q:St cod→Prop} (d t:Nat) (ty tyr:TypeId) (h:st.tmps[d]? =some (.c .nil)) {bg:St cod} (e:st.pf d t ty tyr=bg) (hr:af P b0 kk bg Q):af P b0 kk st Q:=
 af.weaken (fun a w hR=>by rw [←e];exact PU d t ty tyr h hR) hr
noncomputable def rowOf (t:Nat) (tyr:TypeId) (H:Heap cod):Cell→Option (Nat×List (cod t).α)
 | .own r _=>match getObj H r with
   | .own u l ty=>if h:u=t then (if ty=tyr then some (r,h▸l) else none) else none
   | _=>none
 | .ai r 0 m true=>match getObj H r with
   | .arr u l ty=>if h:u=t then (if ty=tyr∧m=l.length∧0 < m then some (r,h▸l) else none) else none
   | _=>none
 | _=>none
theorem KN {t:Nat} {tyr:TypeId} {H:Heap cod} {env:Env} {w:World} {M:Nat→Prop} {c:Cell} {v:Value} {r:Nat} {l:List (cod t).α} (h:rowOf t tyr H c=some (r,l)) (G:Good env H w M) (hc:bZ env H.length c v):
 w.ownsRow 0 tyr (cod t).size v l.length (aN (cod t) l)∧(∀b,v.ownBlock=some b→M b)∧(∀b,v.ownBlock=some b→∃o,H[r]? =some o∧o.wr=true∧o.has (env r) b)∧r < H.length∧(getObj H r).wr=true:=by
 unfold rowOf at h;split at h
 ·rename_i r' m;split at h
  ·rename_i u l' ty ho;split at h
   ·rename_i e;subst e;split at h
    ·rename_i e;subst e;simp only [Option.some.injEq,Prod.mk.injEq] at h;obtain ⟨rfl,rfl⟩:=h;have dN:=aE ho (by simp);obtain ⟨o1,o2,o3,o4,o5⟩:=G.obj _ _ dN;obtain ⟨g1,rfl,_⟩:=hc;exact ⟨o3,o4,fun b hb=>⟨_,dN,rfl,hb⟩,g1,by rw [ho];rfl⟩
    ·cases h
   ·cases h
  ·cases h
 ·rename_i r' m;split at h
  ·rename_i u l' ty ho;split at h
   ·rename_i e;subst e;split at h
    ·rename_i e;obtain ⟨rfl,hm,hp⟩:=e;simp only [Option.some.injEq,Prod.mk.injEq] at h;obtain ⟨rfl,rfl⟩:=h;have dN:=aE ho (by simp);obtain ⟨o1,o2,o3,o4⟩:=G.obj _ _ dN;obtain ⟨g1,A,cc,rfl,g2,g3,g4,g5⟩:=hc;have hA:=g5 hp;have hcc:=g4 rfl;subst hcc;have lR:(env r').addr 0 0=⟨(env r').block,0,none⟩:=by simp [HV.addr,o1]
     rw [lR] at hA;subst hA;subst hm;refine ⟨⟨bB _ _,.inr ⟨(env r').block,l'.length,(aN (cod u) l').toArray,rfl,Nat.zero_le _,o4,Nat.le_refl _,g3,by simp [bB],?_⟩⟩,fun b hb=>?_,fun b hb=>?_,g1,by rw [ho];rfl⟩
     ·simp only [];rw [←bB (cod u) l',List.take_length]
     ·simp only [Value.ownBlock,Option.some.injEq] at hb;rw [←hb];exact o3
     ·simp only [Value.ownBlock,Option.some.injEq] at hb;exact ⟨_,dN,rfl,hb.symm⟩
    ·cases h
   ·cases h
  ·cases h
 ·cases h
noncomputable def St.jA (h:Nat) (st:St cod):St cod:=match getObj st.heap h with
 | .cj t LL (j::js) (c::cs) ty tyr=>match rowOf t tyr st.heap c with
   | some (r,l)=>{st with heap:=(st.heap.set h (.cj t (LL.set j l) js cs ty tyr)).set r .dead}
   | none=>st
 | _=>st
theorem Jt {st:St cod} {b:aC} {a:Act} {w:World} {h j t r:Nat} {LL:List (List (cod t).α)} {js:List Nat} {c:Cell} {cs:List Cell} {ty tyr:TypeId} {l:List (cod t).α} (ho:getObj st.heap h= .cj t LL (j::js) (c::cs) ty tyr) (hj:j < LL.length) (hjs:j∉js) (hr:rowOf t tyr st.heap c=some (r,l)) (hn:b.n≤h) (bP:r≠h) (hR:Rel st b a w):Rel (st.jA h) b a w:=by
 have Gq:st.jA h={st with heap:=(st.heap.set h (.cj t (LL.set j l) js cs ty tyr)).set r .dead}:=by
  unfold St.jA;rw [ho];simp only [hr]
 rw [Gq];obtain ⟨env,hF,hd,G,gY,so,zZ,tC⟩:=hR;have dN:=aE ho (by simp);have cI:h < st.heap.length:=(List.getElem?_eq_some_iff.1 dN).1;obtain ⟨h1,h2,h3,⟨vs,h4,h5,h6⟩,h7,h8,h9,Ap⟩:=G.obj h _ dN;obtain ⟨v,hv,Rq⟩:=h6 0 j c rfl rfl;obtain ⟨r1,r2,r3,r4,_⟩:=KN hr G Rq;generalize hx:(⟨(env h).block,(env h).off,(env h).fE,(env h).val,(env h).rows.set j v⟩:HV)=x;have x1:x.val=(env h).val:=by rw [←hx]
 have x2:x.rows=(env h).rows.set j v:=by rw [←hx]
 have x3:x.block=(env h).block:=by rw [←hx]
 have x4:x.off=(env h).off:=by rw [←hx]
 have x5:x.fE=(env h).fE:=by rw [←hx]
 have hlen:((st.heap.set h (.cj t (LL.set j l) js cs ty tyr)).set r .dead:Heap cod).length=st.heap.length:=by simp
 have cr:∀(c:Cell) (u:Value),bZ env st.heap.length c u→bZ (env.set h x) st.heap.length c u:=fun c u hc=>by
  have ha:∀k i o,(env.set h x k).addr i o=(env k).addr i o:=fun k i o=>by
   by_cases e:k=h
   ·subst e;rw [Env.aU];unfold HV.addr;rw [x3,x4,x5]
   ·rw [Env.aD _ _ e]
  have e9:∀k,(env.set h x k).val=(env k).val:=fun k=>by
   by_cases e:k=h
   ·subst e;rw [Env.aU,x1]
   ·rw [Env.aD _ _ e]
  cases c<;>simp only [bZ] at hc ⊢ <;>try exact hc
  case ptr=>rw [ha];exact hc
  case ai=>rw [ha];exact hc
  case own=>rw [ha,e9];exact hc
  case fn f dC=>
   obtain ⟨g1,rfl⟩:=hc;refine ⟨g1,?_⟩;congr 2;exact List.map_congr_left fun c hc=>by rw [ha]
 have get:∀(k:Nat) (o:av cod),((st.heap.set h (.cj t (LL.set j l) js cs ty tyr)).set r .dead:Heap cod)[k]? =some o→(k=r∧o= .dead)∨(k=h∧o= .cj t (LL.set j l) js cs ty tyr)∨(k≠h∧k≠r∧st.heap[k]? =some o):=fun k o hk=>by
  by_cases e:k=r
  ·subst e;rw [List.getElem?_set_self (by simpa using r4)] at hk;exact .inl ⟨rfl,(Option.some.inj hk).symm⟩
  ·rw [List.getElem?_set_ne (Ne.symm e)] at hk;by_cases e2:k=h
   ·subst e2;rw [List.getElem?_set_self cI] at hk;exact .inr (.inl ⟨rfl,(Option.some.inj hk).symm⟩)
   ·rw [List.getElem?_set_ne (Ne.symm e2)] at hk;exact .inr (.inr ⟨e2,e,hk⟩)
 have ZQ:∀i u,x.rows[i]? =some u→(i=j∧u=v)∨(i≠j∧(env h).rows[i]? =some u):=fun i u hu=>by
  rw [x2] at hu;by_cases e:i=j
  ·subst e;rw [List.getElem?_set_self (by omega)] at hu;exact .inl ⟨rfl,(Option.some.inj hu).symm⟩
  ·rw [List.getElem?_set_ne (Ne.symm e)] at hu;exact .inr ⟨e,hu⟩
 have adw:∀c,v.ownBlock=some c→¬(av.cj t LL (j::js) (‹Cell› ::cs) ty tyr:av cod).has (env h) c:=fun c hc hh=>by
  obtain ⟨o,q1,q2,q3⟩:=r3 c hc;exact G.sep r h o _ c bP q1 dN q2 q3 hh
 have aeA:∀c,(av.cj t (LL.set j l) js cs ty tyr:av cod).has x c→(av.cj t LL (j::js) (‹Cell› ::cs) ty tyr:av cod).has (env h) c∨v.ownBlock=some c:=fun c hc=>by
  rcases hc with hc | ⟨i,u,hu,hi,hb⟩
  ·rw [x1] at hc;exact .inl (.inl hc)
  ·rcases ZQ i u hu with ⟨rfl,rfl⟩ | ⟨e,hu⟩
   ·exact .inr hb
   ·exact .inl (.inr ⟨i,u,hu,fun h=>(List.mem_cons.1 h).elim e hi,hb⟩)
 refine ⟨env.set h x,?_,hd,⟨fun k o hk=>?_,fun k k' o o' c Pu hk tE hw hc cY=>?_,G.sr⟩,gY,fun q hq hq2=>?_,?_,fun q o hq hqo dS=>?_⟩
 ·simp only [hlen]
  have:=jD (f:=id) (R:=aS env st.heap.length) (S:=aS (env.set h x) st.heap.length) (fun y _ u hu=>by
   have:=iH (f:=id) (fun c u hc=>cr c u hc) hu
   have e:y.aX id=y:=by
    cases y with
    | c x=>rfl
    | agg cs=>simp [SV.aX]
    | aP vs=>
      simp only [SV.aX,id_eq,SV.aP.injEq];refine (List.map_congr_left fun v _=>?_).trans (List.map_id _);cases v<;>simp
   rw [e] at this;exact this) hF
  rwa [List.map_id] at this
 ·simp only [hlen];rcases get k o hk with ⟨rfl,rfl⟩ | ⟨rfl,rfl⟩ | ⟨g1,g2,g3⟩
  ·trivial
  ·rw [Env.aU];refine ⟨by rw [x4];exact h1,by rw [x5];exact h2,⟨by rw [x2,List.length_set,List.length_set];exact h3.1,by simpa using h3.2⟩,⟨vs,by rw [x1,List.length_set];exact h4,fun i hi=>?_,fun q i c' hq cY=>?_⟩,by rw [x1];exact h7,by rw [x1,x3];exact h8,fun i u l' hi hu gP=>?_,fun i k u u' c' hik hi hkk hu vW hb eG=>?_⟩
   ·rw [x2];by_cases e:i=j
    ·subst e;rw [List.getElem?_set_self (by omega)];exact .inl hv
    ·rw [List.getElem?_set_ne (Ne.symm e)];exact h5 i fun h=>(List.mem_cons.1 h).elim e hi
   ·obtain ⟨u,hu,EY⟩:=h6 (q+1) i c' (by simpa using hq) (by simpa using cY);exact ⟨u,hu,cr _ _ EY⟩
   ·rcases ZQ i u hu with ⟨rfl,rfl⟩ | ⟨e,hu⟩
    ·rw [List.getElem?_set_self (by omega)] at gP;simp only [Option.some.injEq] at gP;subst gP;refine ⟨r1,fun b hb=>⟨r2 b hb,fun Xs=>adw b hb (.inl ?_)⟩⟩;rw [x1] at Xs;exact Xs
    ·rw [List.getElem?_set_ne (Ne.symm e)] at gP;obtain ⟨q1,q2⟩:=h9 i u l' (fun h=>(List.mem_cons.1 h).elim e hi) hu gP;exact ⟨q1,fun b hb=>⟨(q2 b hb).1,by rw [x1];exact (q2 b hb).2⟩⟩
   ·rcases ZQ i u hu with ⟨rfl,rfl⟩ | ⟨e,hu⟩<;>rcases ZQ k u' vW with ⟨rfl,rfl⟩ | ⟨e',vW⟩
    ·exact hik rfl
    ·exact adw c' hb (.inr ⟨k,u',vW,fun h=>(List.mem_cons.1 h).elim e' hkk,eG⟩)
    ·exact adw c' eG (.inr ⟨i,u,hu,fun h=>(List.mem_cons.1 h).elim e hi,hb⟩)
    ·exact Ap i k u u' c' hik (fun h=>(List.mem_cons.1 h).elim e hi) (fun h=>(List.mem_cons.1 h).elim e' hkk) hu vW hb eG
  ·rw [Env.aD _ _ g1];have:=dx (f:=id) (fun c u hc=>cr c u hc) (G.obj k o g3)
   have e:o.aX id=o:=by
    cases o<;>simp [av.aX]
   rwa [e] at this
 ·rcases get k o hk with ⟨rfl,rfl⟩ | ⟨rfl,rfl⟩ | ⟨g1,g2,g3⟩
  ·cases hw
  ·rcases get k' o' tE with ⟨rfl,rfl⟩ | ⟨rfl,rfl⟩ | ⟨Pn,Ro,Xq⟩
   ·exact cY
   ·exact Pu rfl
   ·rw [Env.aU] at hc;rw [Env.aD _ _ Pn] at cY;rcases aeA c hc with hc | hc
    ·exact G.sep _ k' _ o' c Pu dN Xq rfl hc cY
    ·obtain ⟨o2,q1,q2,q3⟩:=r3 c hc;exact G.sep r k' o2 o' c (Ne.symm Ro) q1 Xq q2 q3 cY
  ·rw [Env.aD _ _ g1] at hc;rcases get k' o' tE with ⟨rfl,rfl⟩ | ⟨rfl,rfl⟩ | ⟨Pn,Ro,Xq⟩
   ·exact cY
   ·rw [Env.aU] at cY;rcases aeA c cY with cY | cY
    ·exact G.sep k _ o _ c Pu g3 dN hw hc cY
    ·obtain ⟨o2,q1,q2,q3⟩:=r3 c cY;exact G.sep k r o o2 c g2 g3 q1 hw hc q3
   ·rw [Env.aD _ _ Pn] at cY;exact G.sep k k' o o' c Pu g3 Xq hw hc cY
 ·rw [Env.aD _ _ (by omega)];exact so q hq hq2
 ·simp only [hlen];exact zZ
 ·rcases get q o hqo with ⟨rfl,rfl⟩ | ⟨rfl,rfl⟩ | ⟨g1,g2,g3⟩
  ·cases dS
  ·omega
  ·exact tC q o hq g3 dS
theorem af.jA {P:Program} {b0:aC} {kk:List Item} {st:St cod} {Q:St cod→Prop} (h:Nat) {j t r N:Nat} (hb:b0.n=N) {LL:List (List (cod t).α)} {js:List Nat} {c:Cell} {cs:List Cell} {ty tyr:TypeId} {l:List (cod t).α} (ho:getObj st.heap h= .cj t LL (j::js) (c::cs) ty tyr) (hj:j < LL.length) (hjs:j∉js) (hr:rowOf t tyr st.heap c=some (r,l)) (hn:N≤h) (bP:r≠h) {bg:St cod} (e:st.jA h=bg) (hk:af P b0 kk bg Q):af P b0 kk st Q:=
 af.weaken (fun a w hR=>by rw [←e];exact Jt ho hj hjs hr (by omega) bP hR) hk
end
end Sym
end Go.Proofs.YtcjagpfbhnmggaaGreatDoor
