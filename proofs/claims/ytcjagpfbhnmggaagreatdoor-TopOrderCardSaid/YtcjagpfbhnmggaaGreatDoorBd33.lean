/- Parts of the proof. -/
import Derived.Test.YtcjagpfbhnmggaaGreatDoorBd32
namespace Go.Proofs.YtcjagpfbhnmggaaGreatDoor
section
open Sym Go.RowKit
noncomputable section
set_option maxRecDepth 100000
set_option maxHeartbeats 4000000
namespace F
noncomputable def E1 (L:List (List Int)) (ms:Int):Int:=if cE L ms=0 then vZ ms L (List.replicate (L.getD 0 []).length false) else 0
end F
namespace F
theorem xW:∀(q:List Int),JM q=0→∀c∈q,-1≤c∧c≤1099511627776
 | [],_,c,hc=>by cases hc
 | a::t,h,c,hc=>by
   unfold JM at h;split at h
   ·cases h
   ·rename_i h1;rcases List.mem_cons.1 hc with e | e
    ·subst e;omega
    ·exact xW t h c e
theorem rL (n:Nat):∀(L:List (List Int)),tV n L=0→∀r∈L,r.length=n∧r.length≤32∧∀c∈r,-1≤c∧c≤1099511627776
 | [],_,r,hr=>by cases hr
 | a::t,h,r,hr=>by
   unfold tV at h;split at h
   ·rename_i h1;rcases List.mem_cons.1 hr with e | e
    ·subst e;unfold rwE at h1;split at h1
     ·cases h1
     ·split at h1
      ·cases h1
      ·exact ⟨by omega,by omega,xW _ h1⟩
    ·exact rL n t h r e
   ·rename_i h1;exact absurd h h1
theorem S8 {L:List (List Int)} {ms:Int} (h:cE L ms=0):(∀r∈L,r.length=(L.getD 0 []).length∧r.length≤32∧∀c∈r,-1≤c∧c≤1099511627776)∧0≤ms∧ms≤1099511627776:=by
 unfold cE at h;split at h
 ·cases h
 ·split at h
  ·rename_i h1;split at h
   ·cases h
   ·exact ⟨rL _ L h1,by omega,by omega⟩
  ·rename_i h1;exact absurd h h1
theorem vQ {L:List (List Int)} {ms:Int} (h:cE L ms=0) (hl:L.length≤20) {tk:List Bool} (ht:tk.length=(L.getD 0 []).length) (i:Nat):fg L tk∧tk.length≤32∧Zy (L.drop i) ms tk:=by
 obtain ⟨h1,h2,h3⟩:=S8 h;refine ⟨fun r hr=>by rw [ht];exact (h1 r hr).1,?_,fun r hr=>?_,h2,h3,by rw [List.length_drop];omega⟩
 ·rw [ht]
  cases L with
  | nil=>exact Nat.zero_le _
  | cons a t=>exact (h1 a (List.mem_cons_self ..)).2.1
 ·have hm:=List.mem_of_mem_drop hr;refine ⟨by rw [ht];exact (h1 r hm).1,fun k=>?_⟩;rw [List.getD_eq_getElem?_getD];rcases Nat.lt_or_ge k r.length with c | c
  ·rw [List.getElem?_eq_getElem c];exact ((h1 r hm).2.2 _ (List.getElem_mem c)).2
  ·rw [List.getElem?_eq_none c];decide
end F
noncomputable def FY:bA:=[]
theorem adJ (L:List (List Int)) (bU:Bool) (ms:Int):aI RP FY Tryz.f61.results.toList 1 400 [.code (aj Tryz.f61)] ⟨ay Tryz.f61 [.c (.ai 0 0 L.length bU),.c (.int .i64 ms)],([.cL 0 L none]:Heap cod)⟩=
 (let q1:=List.length (List.getD L 0 []);
 let q0:=List.replicate (Int.ofNat q1).toNat false;
 .aa ((0=0∧List.length L=List.length L)) (cond (!decide (F.cE L ms=0)) (.ret (.fin (.aP [.c (.int .i64 0),.c (.int .i64 (F.cE L ms))]) [])) (.aa ((0=0∧List.length L=List.length L)) (.aa (((0:Int)≤Int.ofNat q1∧(Int.ofNat q1≤1000000∧Int.ofNat q1=Int.ofNat q1))) (.aa (((0=0∧List.length L=List.length L)∧((0=0∧Int.toNat (Int.ofNat q1)=List.length q0)∧(((0:Int)≤0∧(0:Int)≤Int.ofNat L.length)∧(F.fg L q0∧(List.length q0≤32∧F.Zy (List.drop (Int.toNat 0) L) ms q0)))))) (.ret (.fin (.aP [.c (.int .i64 (F.vZ ms (List.drop (Int.toNat 0) L) q0)),.c (.int .i64 0)]) []))))))):=by kernel_rfl
theorem aap (L:List (List Int)) (bU:Bool) (ms:Int) (b0:aC) (hb:b0.n=1) (h0:List.length L≤20):Sym.af Tryz.prog b0 [.code (aj Tryz.f61)] ⟨ay Tryz.f61 [.c (.ai 0 0 L.length bU),.c (.int .i64 ms)],([.cL 0 L none]:Heap cod)⟩ (Sym.Ends Tryz.prog Tryz.f61 1 (.aP [.c (.int .i64 (F.E1 L ms)),.c (.int .i64 (F.cE L ms))]) []):=by
 refine af.go (cfg:=RP) wS mixed FY 400 hb (adJ L bU ms) ?_;simp only [T.wp,T.wp_cond,bF,Int.ofNat_eq_natCast,and_true,true_and,Bool.not_eq_true',decide_eq_false_iff_not];by_cases c:F.cE L ms=0
 ·refine ap (by rw [c];decide) ?_;have N:=F.vQ c h0 (tk:=List.replicate (L.getD 0 []).length false) (by simp) 0;have e1:((L.getD 0 []).length:Int).toNat=(L.getD 0 []).length:=by omega
  have e2:F.E1 L ms=F.vZ ms (List.drop (Int.toNat 0) L) (List.replicate (L.getD 0 []).length false):=by
   unfold F.E1;rw [if_pos c];rfl
  rw [e1,e2,c];have n2:=N.2.1;rw [List.length_replicate] at n2;exact ⟨⟨by omega,by omega⟩,⟨by simp,⟨by omega,by omega⟩,N.1,N.2.1,N.2.2⟩,rfl⟩
 ·refine aq c ?_;have e2:F.E1 L ms=0:=by unfold F.E1;rw [if_neg c]
  rw [e2]
noncomputable def Wy:aH cod:=fun args H=>match args,H with
 | [.c (.ai 0 oU qm _),.c (.int .i64 ms)],[o0]=>(match o0.oV 0 with | some L=>.aa ((oU=0∧qm=List.length L)∧(List.length L≤20)) (.ret (.aP [.c (.int .i64 (F.E1 L ms)),.c (.int .i64 (F.cE L ms))],[])) | none=>.fail)
 | _,_=>.fail
theorem Re:Sound Tryz.prog cod 61 Wy:=ax (cfg:=RP) wS mixed Tryz.func61 rfl rfl _ fun args H r news hg b0 hb=>by
 unfold Wy at hg;split at hg
 ·skip
  split at hg
  ·rename_i L gG;cases fM gG;simp only [T.ah,T.wp,Prod.mk.injEq] at hg;obtain ⟨⟨⟨rfl,rfl⟩,q1⟩,rfl,rfl⟩:=hg;exact aap _ _ _ b0 hb (by assumption)
  ·exact hg.elim
 ·exact hg.elim
noncomputable def SF:aQ cod:=(61,.p Wy)::Sm
noncomputable def kA:aT cod:=c9 SF
theorem gw:cv Tryz.prog cod SF:=.cons Re wS
namespace F
noncomputable def OE (L:List (List Int)) (ms:Int):List Int:=if cE L ms=0 then Rp ms L (List.replicate (L.getD 0 []).length false) (E1 L ms) else []
end F
noncomputable def fU:bA:=[(8,[1,9,0,30,7,31,32,11,10],4),(100009,[1,9,0,30,7,31,32,11,10],5),(100011,[1,9,0,30,7,31,32,14,11,10,12,13],5),(14,[1,9,0,30,7,31,32,11,10,12,50,14,51,52],5)]
noncomputable def oX:bA:=[(8,[1,9,0,30,7,31,32,11,10],4),(100011,[1,9,0,30,7,31,32,14,11,10,12,13],5),(14,[1,9,0,30,7,31,32,11,10,12,50,14,51,52],5)]
noncomputable def mV:bA:=[(8,[1,9,0,30,7,31,32,11,10],4),(100009,[1,9,0,30,7,31,32,11,10],5),(14,[1,9,0,30,7,31,32,11,10,12,50,14,51,52],5)]
theorem XZ (L:List (List Int)) (bU:Bool) (ms:Int):aI kA fU Tryz.f26.results.toList 1 400 [.code (aj Tryz.f26)] ⟨ay Tryz.f26 [.c (.ai 0 0 L.length bU),.c (.int .i64 ms)],([.cL 0 L none]:Heap cod)⟩=
 (let q0:=List.length (List.getD L 0 []);
 let q1:=List.length L;
 .aa (((0=0∧List.length L=List.length L)∧List.length L≤20)) (cond (!decide (F.cE L ms=0)) (.ret (.fin (.aP [.c (.own 1 0),.c (.int .i64 0),.c (.int .i64 (F.cE L ms))]) [.own 0 [] 3])) (.aa ((0=0∧List.length L=List.length L)) (.aa (((0:Int)≤Int.ofNat q0∧(Int.ofNat q0≤1000000∧Int.ofNat q0=Int.ofNat q0))) (.ret (.cut (cutAt Tryz.f26 8) ⟨bc 60 [(0,.c (.ai 0 0 q1 bU)),(0,.c (.int .i64 ms)),(5,.c (.int .i64 (F.E1 L ms))),(1,.c (.ai 2 0 (Int.ofNat q0).toNat true)),(0,.c (.int .i64 (F.E1 L ms))),(0,.c (.own 3 0)),(18,.c (.ai 0 0 q1 bU)),(0,.c (.int .i64 (Int.ofNat q1))),(0,.c (.int .i64 0))],[.cL 0 (L) none,.own 0 [] 3,.arr 3 (List.replicate (Int.ofNat q0).toNat false) 4,.own 0 [] 3]⟩)))))):=by kernel_rfl
noncomputable def oE (L:List (List Int)) (bU:Bool) (ms:Int) (w:Nat) (tk:List Bool) (out:List Int) (no i:Nat) (tt left:Int):St cod:=⟨bc 60 [(0,.c (.ai 0 0 L.length bU)),(0,.c (.int .i64 ms)),(5,.c (.int .i64 tt)),(1,.c (.ai 2 0 w true)),(0,.c (.int .i64 left)),(0,.c (.own 3 no)),(18,.c (.ai 0 0 L.length bU)),(0,.c (.int .i64 (List.length L:Int))),(0,.c (.int .i64 (i:Int)))],([.cL 0 L none,.own 0 [] 3,.arr 3 tk 4,.own 0 out 3]:Heap cod)⟩
theorem MU (L:List (List Int)) (bU:Bool) (ms:Int) (w:Nat) (tk:List Bool) (out:List Int) (no i:Nat) (tt left:Int):aI kA fU Tryz.f26.results.toList 1 400 (cutAt Tryz.f26 8) (oE L bU ms w tk out no i tt left)=
 (let q0:=List.length L;
 cond (decide (Int.ofNat i < Int.ofNat q0)) (.ret (.cut (bu Tryz.f26 9) ⟨bc 60 [(0,.c (.ai 0 0 q0 bU)),(0,.c (.int .i64 ms)),(5,.c (.int .i64 tt)),(1,.c (.ai 2 0 (w) true)),(0,.c (.int .i64 left)),(0,.c (.own 3 (no))),(18,.c (.ai 0 0 q0 bU)),(0,.c (.int .i64 (Int.ofNat q0))),(0,.c (.int .i64 (Int.ofNat i)))],[.cL 0 (L) none,.own 0 [] 3,.arr 3 tk 4,.own 0 out 3]⟩)) (.ret (.fin (.aP [.c (.own 1 (no)),.c (.int .i64 tt),.c (.int .i64 0)]) [.own 0 out 3]))):=by kernel_rfl
noncomputable def vf (L:List (List Int)) (bU:Bool) (ms:Int) (w:Nat) (tk:List Bool) (out:List Int) (no i:Nat) (tt left:Int) (j:Nat) (q:List Int):St cod:=⟨bc 60 [(0,.c (.ai 0 0 L.length bU)),(0,.c (.int .i64 ms)),(5,.c (.int .i64 tt)),(1,.c (.ai 2 0 (w) true)),(0,.c (.int .i64 left)),(0,.c (.own 3 (no))),(18,.c (.ai 0 0 L.length bU)),(0,.c (.int .i64 (Int.ofNat L.length))),(0,.c (.int .i64 (Int.ofNat i)))],([.cL 0 L (some (j,.ai 4 0 q.length false)),.own 0 [] 3,.arr 3 tk 4,.own 0 out 3,.aB 0 q]:Heap cod)⟩
theorem OB (L:List (List Int)) (bU:Bool) (ms:Int) (w:Nat) (tk:List Bool) (out:List Int) (no i:Nat) (tt left:Int) (j:Nat) (q:List Int):aI kA oX Tryz.f26.results.toList 1 400 (bu Tryz.f26 9) (vf L bU ms w tk out no i tt left j q)=
 (let q0:=List.length L;
 .aa (((0:Int)≤Int.ofNat i∧Int.ofNat i < Int.ofNat q0)) (.aa ((0+Int.toNat (Int.ofNat i)=j∧j < List.length L)) (.ret (.cut (bu Tryz.f26 11) ⟨bc 60 [(0,.c (.ai 0 0 q0 bU)),(0,.c (.int .i64 ms)),(5,.c (.int .i64 tt)),(1,.c (.ai 2 0 (w) true)),(0,.c (.int .i64 left)),(0,.c (.own 3 (no))),(0,.c (.int .i64 (Int.ofNat i))),(0,.c (.ai 4 0 q.length false)),(0,.c (.int .i64 (-1))),(15,.c (.ai 0 0 q0 bU)),(0,.c (.int .i64 (Int.ofNat q0))),(0,.c (.int .i64 (Int.ofNat i)))],[.cL 0 (L) (some ((j),.ai 4 0 q.length false)),.own 0 [] 3,.arr 3 tk 4,.own 0 out 3,.aB 0 q]⟩)))):=by kernel_rfl
noncomputable def rP (L:List (List Int)) (bU:Bool) (ms:Int) (w:Nat) (tk:List Bool) (out:List Int) (no i:Nat) (tt left:Int) (q:List Int):St cod:=⟨bc 60 [(0,.c (.ai 0 0 L.length bU)),(0,.c (.int .i64 ms)),(5,.c (.int .i64 tt)),(1,.c (.ai 2 0 (w) true)),(0,.c (.int .i64 left)),(0,.c (.own 3 (no))),(0,.c (.int .i64 (Int.ofNat i))),(0,.c (.ai 4 0 q.length false)),(0,.c (.int .i64 (-1))),(15,.c (.ai 0 0 L.length bU)),(0,.c (.int .i64 (Int.ofNat L.length))),(0,.c (.int .i64 (Int.ofNat i)))],([.cL 0 L none,.own 0 [] 3,.arr 3 tk 4,.own 0 out 3,.aB 0 q]:Heap cod)⟩
theorem Jj (L:List (List Int)) (bU:Bool) (ms:Int) (w:Nat) (tk:List Bool) (out:List Int) (no i:Nat) (tt left:Int) (q:List Int):aI kA mV Tryz.f26.results.toList 1 400 (bu Tryz.f26 11) (rP L bU ms w tk out no i tt left q)=
 (let q1:=List.length L;
 let q2:=Int.ofNat i+1;
 let q0:=List.drop q2.toNat L;
 .aa (ae q2) (.aa (((0=0∧List.length L=List.length L)∧((0=0∧w=List.length tk)∧(((0:Int)≤Int.ofNat i+1∧Int.ofNat i+1≤Int.ofNat q1)∧(F.fg L tk∧(List.length tk≤32∧F.Zy q0 ms tk)))))) (.aa (ae (ms+F.vZ ms q0 tk)) (cond (decide (ms+F.vZ ms q0 tk=left)) (.aa (ae (left - ms)) (.aa (1=1) (.aa (no+1≤1000000) (.aa (ae q2) (.ret (.cut (cutAt Tryz.f26 8) ⟨bc 60 [(0,.c (.ai 0 0 q1 bU)),(0,.c (.int .i64 ms)),(5,.c (.int .i64 tt)),(1,.c (.ai 2 0 (w) true)),(0,.c (.int .i64 (left - ms))),(0,.c (.own 3 (no+1))),(18,.c (.ai 0 0 q1 bU)),(0,.c (.int .i64 (Int.ofNat q1))),(0,.c (.int .i64 q2))],[.cL 0 (L) none,.own 0 [] 3,.arr 3 tk 4,.own 0 (out++[-1]:List Int) 3]⟩)))))) (.ret (.cut (cutAt Tryz.f26 14) ⟨bc 40 [(0,.c (.ai 0 0 q1 bU)),(0,.c (.int .i64 ms)),(5,.c (.int .i64 tt)),(1,.c (.ai 2 0 (w) true)),(0,.c (.int .i64 left)),(0,.c (.own 3 (no))),(0,.c (.int .i64 (Int.ofNat i))),(1,.c (.int .i64 (-1))),(15,.c (.ai 0 0 q1 bU)),(0,.c (.int .i64 (Int.ofNat q1))),(0,.c (.int .i64 (Int.ofNat i))),(17,.c (.ai 4 0 q.length false)),(0,.c (.int .i64 (Int.ofNat q.length))),(0,.c (.int .i64 0))],[.cL 0 (L) none,.own 0 [] 3,.arr 3 tk 4,.own 0 out 3,.aB 0 q]⟩)))))):=by kernel_rfl
noncomputable def zp (L:List (List Int)) (bU:Bool) (ms:Int) (w:Nat) (tk:List Bool) (out:List Int) (no i:Nat) (tt left:Int) (q:List Int) (k:Nat):St cod:=⟨bc 40 [(0,.c (.ai 0 0 L.length bU)),(0,.c (.int .i64 ms)),(5,.c (.int .i64 tt)),(1,.c (.ai 2 0 w true)),(0,.c (.int .i64 left)),(0,.c (.own 3 no)),(0,.c (.int .i64 (i:Int))),(1,.c (.int .i64 (-1))),(15,.c (.ai 0 0 L.length bU)),(0,.c (.int .i64 (List.length L:Int))),(0,.c (.int .i64 (i:Int))),(17,.c (.ai 4 0 q.length false)),(0,.c (.int .i64 (List.length q:Int))),(0,.c (.int .i64 (k:Int)))],([.cL 0 L none,.own 0 [] 3,.arr 3 tk 4,.own 0 out 3,.aB 0 q]:Heap cod)⟩
theorem Fx (L:List (List Int)) (bU:Bool) (ms:Int) (w:Nat) (tk:List Bool) (out:List Int) (no i:Nat) (tt left:Int) (q:List Int) (k:Nat):aI kA fU Tryz.f26.results.toList 1 400 (cutAt Tryz.f26 14) (zp L bU ms w tk out no i tt left q k)=
 (let q0:=List.set tk (0+Int.toNat (Int.ofNat k)) true;
 let q1:=List.length L;
 let q2:=Int.ofNat i+1;
 let q3:=List.length q;
 let q4:=Int.ofNat k+1;
 let q5:=List.drop q2.toNat L;
 let q6:=Int.ofNat q1;
 cond (decide (Int.ofNat k < Int.ofNat q3)) (.aa (((0:Int)≤Int.ofNat k∧Int.ofNat k < Int.ofNat q3)) (.aa (0+Int.toNat (Int.ofNat k) < List.length q) (cond (decide (List.getD q (0+Int.toNat (Int.ofNat k)) (cod 0).d < 0)) (.aa (ae q4) (.ret (.cut (cutAt Tryz.f26 14) ⟨bc 40 [(0,.c (.ai 0 0 q1 bU)),(0,.c (.int .i64 ms)),(5,.c (.int .i64 tt)),(1,.c (.ai 2 0 (w) true)),(0,.c (.int .i64 left)),(0,.c (.own 3 (no))),(0,.c (.int .i64 (Int.ofNat i))),(1,.c (.int .i64 (-1))),(15,.c (.ai 0 0 q1 bU)),(0,.c (.int .i64 q6)),(0,.c (.int .i64 (Int.ofNat i))),(17,.c (.ai 4 0 q3 false)),(0,.c (.int .i64 (Int.ofNat q3))),(0,.c (.int .i64 q4))],[.cL 0 (L) none,.own 0 [] 3,.arr 3 tk 4,.own 0 out 3,.aB 0 q]⟩))) (.aa (((0:Int)≤Int.ofNat k∧Int.ofNat k < Int.ofNat w)) (.aa (0+Int.toNat (Int.ofNat k) < List.length tk) (cond (List.getD tk (0+Int.toNat (Int.ofNat k)) (cod 3).d) (.aa (ae q4) (.ret (.cut (cutAt Tryz.f26 14) ⟨bc 40 [(0,.c (.ai 0 0 q1 bU)),(0,.c (.int .i64 ms)),(5,.c (.int .i64 tt)),(1,.c (.ai 2 0 (w) true)),(0,.c (.int .i64 left)),(0,.c (.own 3 (no))),(0,.c (.int .i64 (Int.ofNat i))),(1,.c (.int .i64 (-1))),(15,.c (.ai 0 0 q1 bU)),(0,.c (.int .i64 q6)),(0,.c (.int .i64 (Int.ofNat i))),(17,.c (.ai 4 0 q3 false)),(0,.c (.int .i64 (Int.ofNat q3))),(0,.c (.int .i64 q4))],[.cL 0 (L) none,.own 0 [] 3,.arr 3 tk 4,.own 0 out 3,.aB 0 q]⟩))) (.aa (((0:Int)≤Int.ofNat k∧Int.ofNat k < Int.ofNat w)) (.aa (0+Int.toNat (Int.ofNat k) < List.length tk) (.aa (ae q2) (.aa (((0=0∧List.length L=List.length L)∧((0=0∧w=List.length q0)∧(((0:Int)≤Int.ofNat i+1∧Int.ofNat i+1≤Int.ofNat q1)∧(F.fg L q0∧(List.length q0≤32∧F.Zy q5 ms q0)))))) (.aa (ae (List.getD q (0+Int.toNat (Int.ofNat k)) (cod 0).d+F.vZ ms q5 q0)) (cond (decide (List.getD q (0+Int.toNat (Int.ofNat k)) (cod 0).d+F.vZ ms q5 q0=left)) (.aa (ae (left - List.getD q (0+Int.toNat (Int.ofNat k)) (cod 0).d)) (.aa (1=1) (.aa (no+1≤1000000) (.aa (ae q2) (.ret (.cut (cutAt Tryz.f26 8) ⟨bc 60 [(0,.c (.ai 0 0 q1 bU)),(0,.c (.int .i64 ms)),(5,.c (.int .i64 tt)),(1,.c (.ai 2 0 (w) true)),(0,.c (.int .i64 (left - List.getD q (0+Int.toNat (Int.ofNat k)) (cod 0).d))),(0,.c (.own 3 (no+1))),(18,.c (.ai 0 0 q1 bU)),(0,.c (.int .i64 q6)),(0,.c (.int .i64 q2))],[.cL 0 (L) none,.own 0 [] 3,.arr 3 q0 4,.own 0 (out++([Int.ofNat k])) 3]⟩)))))) (.aa (((0:Int)≤Int.ofNat k∧Int.ofNat k < Int.ofNat w)) (.aa (0+Int.toNat (Int.ofNat k) < List.length q0) (.aa (ae q4) (.ret (.cut (cutAt Tryz.f26 14) ⟨bc 40 [(0,.c (.ai 0 0 q1 bU)),(0,.c (.int .i64 ms)),(5,.c (.int .i64 tt)),(1,.c (.ai 2 0 (w) true)),(0,.c (.int .i64 left)),(0,.c (.own 3 (no))),(0,.c (.int .i64 (Int.ofNat i))),(1,.c (.int .i64 (-1))),(15,.c (.ai 0 0 q1 bU)),(0,.c (.int .i64 q6)),(0,.c (.int .i64 (Int.ofNat i))),(17,.c (.ai 4 0 q3 false)),(0,.c (.int .i64 (Int.ofNat q3))),(0,.c (.int .i64 q4))],[.cL 0 (L) none,.own 0 [] 3,.arr 3 (List.set q0 (0+Int.toNat (Int.ofNat k)) false) 4,.own 0 out 3,.aB 0 q]⟩))))))))))))))))) (.aa (1=1) (.aa (no+1≤1000000) (.aa (ae q2) (.ret (.cut (cutAt Tryz.f26 8) ⟨bc 60 [(0,.c (.ai 0 0 q1 bU)),(0,.c (.int .i64 ms)),(5,.c (.int .i64 tt)),(1,.c (.ai 2 0 (w) true)),(0,.c (.int .i64 left)),(0,.c (.own 3 (no+1))),(18,.c (.ai 0 0 q1 bU)),(0,.c (.int .i64 q6)),(0,.c (.int .i64 q2))],[.cL 0 (L) none,.own 0 [] 3,.arr 3 tk 4,.own 0 (out++[-1]:List Int) 3]⟩)))))):=by kernel_rfl
theorem SX {ms:Int} (h0:0≤ms∧ms≤1099511627776):∀(rs:List (List Int)) (tk:List Bool),(∀r∈rs,∀k,r.getD k 0≤1099511627776)→∀p∈F.vP ms rs tk,0≤p.1∧p.1≤rs.length*1099511627776
 | [],tk,_,p,hp=>by
   have e:p=(0,[]):=by simpa [F.vP] using hp
   rw [e]
   simp
 | r::rs,tk,hr,p,hp=>by
   have ih:=fun tk=>SX h0 rs tk (fun r' EY=>hr r' (List.mem_cons_of_mem _ EY));have hc:=hr r (List.mem_cons_self ..);have e:(((r::rs).length:Nat):Int)=(rs.length:Int)+1:=by simp
   rw [e,Int.add_mul,Int.one_mul];unfold F.vP at hp;rcases List.mem_append.1 hp with h | h
   ·obtain ⟨p',h1,rfl⟩:=List.mem_map.1 h;have:=ih tk p' h1;show 0≤ms+p'.1∧ms+p'.1≤_;omega
   ·obtain ⟨k,_,h2⟩:=List.mem_flatMap.1 h;split at h2
    ·cases h2
    ·rename_i hk;obtain ⟨p',h1,rfl⟩:=List.mem_map.1 h2;have:=ih _ p' h1;have hck:=hc k;show 0≤r.getD k 0+p'.1∧r.getD k 0+p'.1≤_;omega
theorem Kq {ms:Int} {rs:List (List Int)} {tk:List Bool} (h:F.Zy rs ms tk):0≤F.vZ ms rs tk∧F.vZ ms rs tk≤21990232555520:=by
 have hm:=(F.tL (F.C0 ms rs tk)).1;have:=SX ⟨h.2.1,h.2.2.1⟩ rs tk (fun r hr k=>(h.1 r hr).2 k) _ hm;have hl:(rs.length:Int)*1099511627776≤20*1099511627776:=Int.mul_le_mul_of_nonneg_right (by have:=h.2.2.2;omega) (by omega);show 0≤(F.pick (F.vP ms rs tk)).1∧(F.pick (F.vP ms rs tk)).1≤_;omega
theorem Dw (ms:Int):∀(rs:List (List Int)) (tk:List Bool) (left:Int),(F.Rp ms rs tk left).length=rs.length
 | [],_,_=>rfl
 | r::rs,tk,left=>by
   unfold F.Rp;split
   ·rw [List.length_cons,Dw ms rs];rfl
   ·dsimp only;split<;>rw [List.length_cons,Dw ms rs]<;>rfl
theorem abL (L:List (List Int)) (bU:Bool) (ms:Int) (w:Nat) (b0:aC) (hb:b0.n=1) (RR:List Int) (tt:Int) (hL:L.length≤20) (hw:w=(L.getD 0 []).length) (hc:F.cE L ms=0) (out:List Int) (i:Nat) (left:Int) (q:List Int) (hq:q=L.getD i []) (hi:i < L.length) (tk:List Bool) (ht:tk.length=w) (_: -((i:Int)*1099511627776)≤left∧left≤21990232555520) (c0:Int)
 (nx1:c0= -1→Sym.af Tryz.prog b0 (cutAt Tryz.f26 8) (oE L bU ms w tk (out++[-1]) (i+1) (i+1) tt left) (Sym.Ends Tryz.prog Tryz.f26 1 (.aP [.c (.own 1 RR.length),.c (.int .i64 tt),.c (.int .i64 0)]) [.own 0 RR 3]))
 (fK:∀k:Nat,c0=(k:Int)→k < q.length→0≤q.getD k 0→Sym.af Tryz.prog b0 (cutAt Tryz.f26 8) (oE L bU ms w (tk.set k true) (out++[(k:Int)]) (i+1) (i+1) tt (left - q.getD k 0)) (Sym.Ends Tryz.prog Tryz.f26 1 (.aP [.c (.own 1 RR.length),.c (.int .i64 tt),.c (.int .i64 0)]) [.own 0 RR 3])):
 ∀(d k:Nat),k+d=q.length→F.Tb ms q (L.drop (i+1)) tk left d k=c0→
 Sym.af Tryz.prog b0 (cutAt Tryz.f26 14) (zp L bU ms w tk out i i tt left q k) (Sym.Ends Tryz.prog Tryz.f26 1 (.aP [.c (.own 1 RR.length),.c (.int .i64 tt),.c (.int .i64 0)]) [.own 0 RR 3]):=by
 have d0:(cod 0).d=(0:Int):=rfl;have d4:(cod 3).d=false:=rfl;have Xw:q∈L:=by rw [hq];exact F.nu hi
 have ok:=F.S8 hc;have hql:q.length=w:=by rw [hw];exact (ok.1 q Xw).1
 have akG:=(ok.1 q Xw).2.1;have hN:=fun tk' (h:tk'.length=w)=>F.vQ hc hL (tk:=tk') (by rw [h,hw]) (i+1);intro d
 induction d with
 | zero=>
   intro k hk Gk;refine af.go (cfg:=kA) gw mixed fU 400 hb (Fx L bU ms w tk out i i tt left q k) ?_;simp only [T.wp,T.wp_cond,bF,Int.ofNat_eq_natCast,decide_eq_true_eq,and_true,true_and,Nat.zero_add,d0,d4,Int.toNat_natCast]
   refine ap (by omega) ⟨by omega,by unfold ae;omega,nx1 Gk.symm⟩
 | succ d ih=>
   intro k hk Gk;unfold F.Tb at Gk;have hkq:k < q.length:=by omega
   have Xu:k < tk.length:=by omega
   have kz:(0:Int)≤(k:Int)∧(k:Int) < (q.length:Int):=⟨by omega,by omega⟩;have kw:(0:Int)≤(k:Int)∧(k:Int) < (w:Int):=⟨by omega,by omega⟩;have ki:ae ((k:Int)+1):=by unfold ae;omega
   have ii:ae ((i:Int)+1):=by unfold ae;omega
   refine af.go (cfg:=kA) gw mixed fU 400 hb (Fx L bU ms w tk out i i tt left q k) ?_;simp only [T.wp,T.wp_cond,bF,Int.ofNat_eq_natCast,decide_eq_true_eq,and_true,true_and,Nat.zero_add,d0,d4,Int.toNat_natCast];refine aq (by omega) ⟨kz,hkq,?_⟩;by_cases c1:q.getD k 0 < 0
   ·rw [if_pos (.inl c1)] at Gk;exact aq c1 ⟨ki,ih (k+1) (by omega) Gk⟩
   refine ap c1 ⟨kw,Xu,?_⟩;by_cases c2:tk.getD k false=true
   ·rw [if_pos (.inr c2)] at Gk;exact aq c2 ⟨ki,ih (k+1) (by omega) Gk⟩
   rw [if_neg (by rintro (h | h);exact c1 h;exact c2 h)] at Gk;have hN1:=hN (tk.set k true) (by rw [List.length_set,ht]);have lb:=Kq hN1.2.2;have e1:((i:Int)+1).toNat=i+1:=by omega
   have hqk:q.getD k 0≤1099511627776:=by
    rw [List.getD_eq_getElem?_getD,List.getElem?_eq_getElem hkq];exact ((ok.1 q Xw).2.2 _ (List.getElem_mem hkq)).2
   have hks:k < (tk.set k true).length:=by rw [List.length_set];exact Xu
   have hi5:(i:Int)*1099511627776≤20*1099511627776:=Int.mul_le_mul_of_nonneg_right (by omega) (by omega);refine ap c2 ⟨kw,Xu,ii,⟨by rw [List.length_set,ht],⟨by omega,by omega⟩,hN1.1,hN1.2.1,by rw [e1];exact hN1.2.2⟩,?_⟩;rw [e1];refine ⟨by unfold ae;omega,?_⟩;by_cases c3:q.getD k 0+F.vZ ms (L.drop (i+1)) (tk.set k true)=left
   ·rw [if_pos c3] at Gk;exact aq c3 ⟨by unfold ae;omega,by omega,ii,fK k Gk.symm hkq (by omega)⟩
   ·rw [if_neg c3] at Gk
    have es:(tk.set k true).set k false=tk:=by
     rw [List.set_set];refine List.ext_getElem? fun j=>?_;rw [List.getElem?_set];by_cases e:k=j
     ·subst e;rw [if_pos rfl,if_pos Xu];rw [List.getD_eq_getElem?_getD,List.getElem?_eq_getElem Xu] at c2;rw [List.getElem?_eq_getElem Xu];congr 1;simpa using c2
     ·rw [if_neg e]
    have nx3:=ih (k+1) (by omega) Gk;rw [←es] at nx3;exact ap c3 ⟨kw,hks,ki,nx3⟩
theorem aeh (L:List (List Int)) (bU:Bool) (ms:Int) (w:Nat) (b0:aC) (hb:b0.n=1) (RR:List Int) (tt:Int) (hL:L.length≤20) (hw:w=(L.getD 0 []).length) (hc:F.cE L ms=0):∀(d i:Nat) (out:List Int) (tk:List Bool) (left:Int),i+d=L.length→tk.length=w→(-((i:Int)*1099511627776)≤left∧left≤21990232555520)→out++F.Rp ms (L.drop i) tk left=RR→
 out.length=i→Sym.af Tryz.prog b0 (cutAt Tryz.f26 8) (oE L bU ms w tk out i i tt left) (Sym.Ends Tryz.prog Tryz.f26 1 (.aP [.c (.own 1 RR.length),.c (.int .i64 tt),.c (.int .i64 0)]) [.own 0 RR 3]):=by
 have ok:=F.S8 hc;intro d
 induction d with
 | zero=>
   intro i out tk left hi ht Ur hR ho;refine af.go (cfg:=kA) gw mixed fU 400 hb (MU L bU ms w tk out i i tt left) ?_;simp only [T.wp,T.wp_cond,bF,Int.ofNat_eq_natCast,decide_eq_true_eq];rw [List.drop_eq_nil_of_le (by omega),F.Rp,List.append_nil] at hR;subst hR;rw [ho]
   exact ap (by omega) (by first | trivial | exact ⟨rfl,rfl⟩)
 | succ d ih=>
   intro i out tk left hi ht Ur hR ho;have mB:i < L.length:=by omega
   have hN:=F.vQ hc hL (tk:=tk) (by rw [ht];assumption) (i+1);refine af.go (cfg:=kA) gw mixed fU 400 hb (MU L bU ms w tk out i i tt left) ?_;simp only [T.wp,T.wp_cond,bF,Int.ofNat_eq_natCast,decide_eq_true_eq];refine aq (by omega) ?_;refine af.open 0 i rfl mB rfl ?_;refine af.weaken (bg:=vf L bU ms w tk out i i tt left i (L.getD i [])) (fun a w hR=>hR) ?_;rw [uQ L [] i mB] at hR;obtain ⟨q,hq⟩:∃q,q=L.getD i []:=⟨_,rfl⟩;have Xw:q∈L:=by rw [hq];exact F.nu mB
   rw [←hq] at hR ⊢;refine af.go (cfg:=kA) gw mixed oX 400 hb (OB L bU ms w tk out i i tt left i q) ?_;simp only [T.wp,bF,Int.ofNat_eq_natCast,true_and,Nat.zero_add,Int.toNat_natCast];refine ⟨⟨by omega,by omega⟩,mB,?_⟩;refine af.close 0 rfl ?_;refine af.weaken (bg:=rP L bU ms w tk out i i tt left q) (fun a w hR=>hR) ?_;refine af.go (cfg:=kA) gw mixed mV 400 hb (Jj L bU ms w tk out i i tt left q) ?_;have e1:((i:Int)+1).toNat=i+1:=by omega
   have ii:ae ((i:Int)+1):=by unfold ae;omega
   have lb:=Kq hN.2.2;have hi5:(i:Int)*1099511627776≤20*1099511627776:=Int.mul_le_mul_of_nonneg_right (by omega) (by omega);have hi6:((i+1:Nat):Int)*1099511627776=(i:Int)*1099511627776+1099511627776:=by rw [Int.natCast_succ,Int.add_mul,Int.one_mul]
   simp only [T.wp,T.wp_cond,bF,Int.ofNat_eq_natCast,decide_eq_true_eq,and_true,true_and,e1];refine ⟨ii,⟨ht.symm,⟨by omega,by omega⟩,hN.1,hN.2.1,hN.2.2⟩,by unfold ae;omega,?_⟩;unfold F.Rp at hR;by_cases c:ms+F.vZ ms (L.drop (i+1)) tk=left
   ·rw [if_pos c] at hR;have nx:=ih (i+1) (out++[-1]) tk (left - ms) (by omega) ht (by rw [hi6];omega) (by rw [List.append_assoc];exact hR) (by rw [List.length_append,ho];rfl);exact aq c ⟨by unfold ae;omega,by omega,ii,nx⟩
   ·rw [if_neg c] at hR;dsimp only at hR;refine ap c ?_;refine abL L bU ms w b0 hb RR tt hL hw hc out i left q hq mB tk ht Ur (F.Tb ms q (L.drop (i+1)) tk left q.length 0) (fun e=>?_) (fun k e hk hq0=>?_) q.length 0 (by omega) rfl
    ·rw [if_pos e] at hR;exact ih (i+1) (out++[-1]) tk left (by omega) ht (by rw [hi6];omega) (by rw [List.append_assoc];exact hR) (by rw [List.length_append,ho];rfl)
    ·rw [if_neg (by omega),e,Int.toNat_natCast] at hR
     have hqk:q.getD k 0≤1099511627776:=by
      rw [List.getD_eq_getElem?_getD,List.getElem?_eq_getElem hk];exact ((ok.1 q Xw).2.2 _ (List.getElem_mem hk)).2
     exact ih (i+1) (out++[(k:Int)]) (tk.set k true) (left - q.getD k 0) (by omega) (by rw [List.length_set,ht]) (by rw [hi6];omega) (by rw [List.append_assoc];exact hR) (by rw [List.length_append,ho];rfl)
theorem S4 (L:List (List Int)) (bU:Bool) (ms:Int) (b0:aC) (hb:b0.n=1) (h0:List.length L≤20):Sym.af Tryz.prog b0 [.code (aj Tryz.f26)] ⟨ay Tryz.f26 [.c (.ai 0 0 L.length bU),.c (.int .i64 ms)],([.cL 0 L none]:Heap cod)⟩ (Sym.Ends Tryz.prog Tryz.f26 1 (.aP [.c (.own 1 (F.OE L ms).length),.c (.int .i64 (F.E1 L ms)),.c (.int .i64 (F.cE L ms))]) [.own 0 (F.OE L ms) 3]):=by
 refine af.go (cfg:=kA) gw mixed fU 400 hb (XZ L bU ms) ?_;simp only [T.wp,T.wp_cond,bF,Int.ofNat_eq_natCast,and_true,true_and,Bool.not_eq_true',decide_eq_false_iff_not];refine ⟨h0,?_⟩;by_cases c:F.cE L ms=0
 ·refine ap (by rw [c];decide) ?_;have N:=F.vQ c h0 (tk:=List.replicate (L.getD 0 []).length false) (by simp) 0;have n2:=N.2.1;rw [List.length_replicate] at n2;have e1:((L.getD 0 []).length:Int).toNat=(L.getD 0 []).length:=by omega
  have e2:F.OE L ms=F.Rp ms L (List.replicate (L.getD 0 []).length false) (F.E1 L ms):=by unfold F.OE;rw [if_pos c]
  have e3:F.E1 L ms=F.vZ ms (L.drop 0) (List.replicate (L.getD 0 []).length false):=by unfold F.E1;rw [if_pos c];rfl
  have lb:=Kq N.2.2;rw [←e3] at lb;have A:=aeh L bU ms (L.getD 0 []).length b0 hb (F.OE L ms) (F.E1 L ms) h0 rfl c L.length 0 [] (List.replicate (L.getD 0 []).length false) (F.E1 L ms) (by omega) (by simp) (by omega) (by rw [e2];rfl) rfl;rw [e1,c];exact ⟨⟨by omega,by omega⟩,A⟩
 ·refine aq c ?_;have e2:F.E1 L ms=0:=by unfold F.E1;rw [if_neg c]
  have e3:F.OE L ms=[]:=by unfold F.OE;rw [if_neg c]
  rw [e2,e3]
  first | trivial | exact ⟨rfl,rfl⟩
noncomputable def KW:aH cod:=fun args H=>match args,H with
 | [.c (.ai 0 oU qm _),.c (.int .i64 ms)],[o0]=>(match o0.oV 0 with | some L=>.aa ((oU=0∧qm=List.length L)∧(List.length L≤20)) (.ret (.aP [.c (.own 1 (F.OE L ms).length),.c (.int .i64 (F.E1 L ms)),.c (.int .i64 (F.cE L ms))],[.own 0 (F.OE L ms) 3])) | none=>.fail)
 | _,_=>.fail
theorem Ji:Sound Tryz.prog cod 26 KW:=ax (cfg:=kA) gw mixed Tryz.func26 rfl rfl _ fun args H r news hg b0 hb=>by
 unfold KW at hg;split at hg
 ·skip
  split at hg
  ·rename_i L gG;cases fM gG;simp only [T.ah,T.wp,Prod.mk.injEq] at hg;obtain ⟨⟨⟨rfl,rfl⟩,q1⟩,rfl,rfl⟩:=hg;exact S4 _ _ _ b0 hb (by assumption)
  ·exact hg.elim
 ·exact hg.elim
noncomputable def R2:aQ cod:=(26,.p KW)::SF
theorem Of:cv Tryz.prog cod R2:=.cons Ji gw
end
end
namespace Sym
open Go.RowKit
variable {P:Program} {cod:Nat→aO}
theorem aO.back {c:aO} {cs:List Cell} (h:c.ok cs=true):∃x:c.α,cs=c.enc x∧c.dec cs=x:=⟨c.dec cs,(c.ck cs h).symm,rfl⟩
theorem Sound.sub {g:FuncId} {s s':aH cod} (h:Sound P cod g s) (hs:∀args H a,(s' args H).ah a→(s args H).ah a):Sound P cod g s':=
 ⟨h.enters,fun args H env w vs r news gF G ha hg=>h.calls args H env w vs r news gF G ha (hs _ _ _ hg)⟩
theorem DL {L M:aQ cod} {g:FuncId} {s:aH cod} (h:nF (L++M) g=some s):nF L g=some s∨nF M g=some s:=by
 induction L with
 | nil=>exact .inr h
 | cons x L ih=>
   obtain ⟨f,e⟩:=x;simp only [List.cons_append,nF] at h ⊢;split at h
   ·rename_i he;rw [if_pos he];exact .inl h
   ·rename_i he;rw [if_neg he];exact ih h
theorem DK {L M:aQ cod} {g:FuncId} {s:Bool×aH cod} (h:nE (L++M) g=some s):nE L g=some s∨nE M g=some s:=by
 induction L with
 | nil=>exact .inr h
 | cons x L ih=>
   obtain ⟨f,e⟩:=x;simp only [List.cons_append,nE] at h ⊢;split at h
   ·rename_i he;rw [if_pos he];exact .inl h
   ·rename_i he;rw [if_neg he];exact ih h
theorem cv.append {L M:aQ cod} (hl:cv P cod L) (hm:cv P cod M):cv P cod (L++M):=by
 refine ⟨fun g s hg=>?_,fun g s hg=>?_,fun _=>rfl⟩
 ·rcases DL hg with h | h
  ·exact hl.1 g s h
  ·exact hm.1 g s h
 ·rcases DK hg with h | h
  ·exact hl.2.1 g s h
  ·exact hm.2.1 g s h
end Sym
end Go.Proofs.YtcjagpfbhnmggaaGreatDoor
