/- Parts of the proof. -/
import Derived.Test.YtcjagpfbhnmggaaGreatDoorBd29
import Derived.Test.YtcjagpfbhnmggaaGreatDoorBd28
namespace Go.Proofs.YtcjagpfbhnmggaaGreatDoor
section
namespace F
def pick:List (Int×List Int)→Int×List Int
 | []=>(0,[])
 | p::t=>t.foldl (fun b a=>if a.1 < b.1 then a else b) p
def Gy (l:List (Int×List Int)) (p:Int×List Int):Prop:=∃l1 l2,l=l1++p::l2∧(∀q∈l1,p.1 < q.1)∧∀q∈l2,p.1≤q.1
theorem yc:∀(t l1:List (Int×List Int)) (p:Int×List Int) (l2:List (Int×List Int)),(∀q∈l1,p.1 < q.1)→(∀q∈l2,p.1≤q.1)→Gy (l1++p::(l2++t)) (t.foldl (fun b a=>if a.1 < b.1 then a else b) p)
 | [],l1,p,l2,h1,h2=>⟨l1,l2,by rw [List.append_nil];rfl,h1,h2⟩
 | a::t,l1,p,l2,h1,h2=>by
   show Gy _ (t.foldl _ (if a.1 < p.1 then a else p));by_cases c:a.1 < p.1
   ·rw [if_pos c]
    have:=yc t (l1++p::l2) a [] (fun q hq=>by
     rcases List.mem_append.1 hq with h | h
     ·have:=h1 q h;omega
     ·rcases List.mem_cons.1 h with h | h
      ·rw [h];exact c
      ·have:=h2 q h;omega) (fun q hq=>by cases hq)
    simpa using this
   ·rw [if_neg c]
    have:=yc t l1 p (l2++[a]) h1 (fun q hq=>by
     rcases List.mem_append.1 hq with h | h
     ·exact h2 q h
     ·rw [List.mem_singleton.1 h];omega)
    simpa using this
theorem VM (p:Int×List Int) (t:List (Int×List Int)):Gy (p::t) (pick (p::t)):=yc t [] p [] (fun q hq=>by cases hq) (fun q hq=>by cases hq)
theorem tL {l:List (Int×List Int)} {p:Int×List Int} (h:Gy l p):p∈l∧∀q∈l,p.1≤q.1:=by
 obtain ⟨l1,l2,rfl,h1,h2⟩:=h;refine ⟨by simp,fun q hq=>?_⟩;rcases List.mem_append.1 hq with h | h
 ·have:=h1 q h;omega
 ·rcases List.mem_cons.1 h with h | h
  ·rw [h];exact Int.le_refl _
  ·exact h2 q h
theorem SY (bm:Int):∀(rs:List (List Int)) (tk:List Bool),vP bm rs tk≠[]
 | [],_=>by simp [vP]
 | r::rs,tk=>by
   have:=SY bm rs tk;unfold vP;intro h;have h:=(List.append_eq_nil_iff.1 h).1;exact this (List.map_eq_nil_iff.1 h)
def vZ (bm:Int) (rs:List (List Int)) (tk:List Bool):Int:=(pick (vP bm rs tk)).1
theorem C0 (bm:Int) (rs:List (List Int)) (tk:List Bool):Gy (vP bm rs tk) (pick (vP bm rs tk)):=by
 cases h:vP bm rs tk with
 | nil=>exact absurd h (SY bm rs tk)
 | cons p t=>exact VM p t
theorem ac6 (bm:Int) (rs:List (List Int)) (tk:List Bool):∀q∈vP bm rs tk,vZ bm rs tk≤q.1:=(tL (C0 bm rs tk)).2
theorem Vf {bm:Int} {rs:List (List Int)} {tk:List Bool} {W:Int} (h1:∃a,(W,a)∈vP bm rs tk) (h2:∀p∈vP bm rs tk,W≤p.1):W=vZ bm rs tk:=by
 obtain ⟨a,ha⟩:=h1;have e1:=ac6 bm rs tk _ ha;have e2:=h2 _ (tL (C0 bm rs tk)).1;unfold vZ at*;simp only at e1;omega
def Tb (bm:Int) (r:List Int) (rs:List (List Int)) (tk:List Bool) (left:Int):Nat→Nat→Int
 | 0,_=>-1
 | q+1,k=>if r.getD k 0 < 0∨tk.getD k false=true then Tb bm r rs tk left q (k+1)
   else if r.getD k 0+vZ bm rs (tk.set k true)=left then (k:Int) else Tb bm r rs tk left q (k+1)
def Rp (bm:Int):List (List Int)→List Bool→Int→List Int
 | [],_,_=>[]
 | r::rs,tk,left=>
   if bm+vZ bm rs tk=left then -1::Rp bm rs tk (left - bm)
   else
    let c:=Tb bm r rs tk left r.length 0
    if c= -1 then -1::Rp bm rs tk left else c::Rp bm rs (tk.set c.toNat true) (left - r.getD c.toNat 0)
theorem FF (bm:Int) (r:List Int) (rs:List (List Int)) (tk:List Bool) (left:Int):∀(q k:Nat),(Tb bm r rs tk left q k= -1∧∀j,k≤j→j < k+q→¬(r.getD j 0 < 0∨tk.getD j false=true)→r.getD j 0+vZ bm rs (tk.set j true)≠left)∨
 ∃j:Nat,Tb bm r rs tk left q k=j∧k≤j∧j < k+q∧¬(r.getD j 0 < 0∨tk.getD j false=true)∧r.getD j 0+vZ bm rs (tk.set j true)=left∧∀i,k≤i→i < j→¬(r.getD i 0 < 0∨tk.getD i false=true)→r.getD i 0+vZ bm rs (tk.set i true)≠left
 | 0,k=>.inl ⟨rfl,fun j h1 h2=>by omega⟩
 | q+1,k=>by
   unfold Tb;have ih:=FF bm r rs tk left q (k+1);by_cases c:r.getD k 0 < 0∨tk.getD k false=true
   ·rw [if_pos c];rcases ih with ⟨h1,h2⟩ | ⟨j,h1,h2,h3,h4,h5,h6⟩
    ·refine .inl ⟨h1,fun j j1 j2 hj=>?_⟩;by_cases e:j=k
     ·rw [e] at hj;exact absurd c hj
     ·exact h2 j (by omega) (by omega) hj
    ·refine .inr ⟨j,h1,by omega,by omega,h4,h5,fun i i1 i2 hi=>?_⟩;by_cases e:i=k
     ·rw [e] at hi;exact absurd c hi
     ·exact h6 i (by omega) i2 hi
   ·rw [if_neg c];by_cases c2:r.getD k 0+vZ bm rs (tk.set k true)=left
    ·rw [if_pos c2];exact .inr ⟨k,rfl,by omega,by omega,c,c2,fun i i1 i2=>by omega⟩
    ·rw [if_neg c2];rcases ih with ⟨h1,h2⟩ | ⟨j,h1,h2,h3,h4,h5,h6⟩
     ·refine .inl ⟨h1,fun j j1 j2 hj=>?_⟩;by_cases e:j=k
      ·rw [e];exact c2
      ·exact h2 j (by omega) (by omega) hj
     ·refine .inr ⟨j,h1,by omega,by omega,h4,h5,fun i i1 i2 hi=>?_⟩;by_cases e:i=k
      ·rw [e];exact c2
      ·exact h6 i (by omega) i2 hi
end F
end
section
open Sym Go.RowKit
noncomputable section
set_option maxRecDepth 100000
set_option maxHeartbeats 4000000
namespace F
def JM:List Int→Int
 | []=>0
 | c::t=>if c < -1∨1099511627776 < c then 4 else JM t
def rwE (n:Nat) (r:List Int):Int:=if 32 < r.length then 2 else if r.length≠n then 3 else JM r
def tV (n:Nat):List (List Int)→Int
 | []=>0
 | r::t=>if rwE n r=0 then tV n t else rwE n r
def cE (l:List (List Int)) (ms:Int):Int:=if 32 < l.length then 2 else if tV (l.getD 0 []).length l=0 then (if ms < 0∨1099511627776 < ms then 4 else 0) else tV (l.getD 0 []).length l
end F
theorem uQ {α:Type} (l:List α) (d:α) (k:Nat) (h:k < l.length):l.drop k=l.getD k d::l.drop (k+1):=by
 rw [List.drop_eq_getElem_cons h,List.getD_eq_getElem?_getD,List.getElem?_eq_getElem h];rfl
theorem acU (c:Int):F.de c (-1) 1099511627776=decide (¬(c < -1∨1099511627776 < c)):=by
 unfold F.de;by_cases h1:c < -1<;>by_cases h2:1099511627776 < c<;>simp [h1,h2]<;>omega
theorem acV (c:Int):F.de c 0 1099511627776=decide (¬(c < 0∨1099511627776 < c)):=by
 unfold F.de;by_cases h1:c < 0<;>by_cases h2:1099511627776 < c<;>simp [h1,h2]<;>omega
def ir:bA:=[(4,[0,12,1,13,14],1),(100005,[0,12,1,13,14],2),(100008,[0,12,1,13,14,6],3),(11,[30,0,12,1,13,14,31,32],3),(100016,[0,12,1,13,14],3)]
def qQ:bA:=[(4,[0,12,1,13,14],1),(100008,[0,12,1,13,14,6],3),(11,[30,0,12,1,13,14,31,32],3),(100016,[0,12,1,13,14],3)]
def qR:bA:=[(4,[0,12,1,13,14],1),(100005,[0,12,1,13,14],2),(11,[30,0,12,1,13,14,31,32],3),(100016,[0,12,1,13,14],3)]
def qP:bA:=[(4,[0,12,1,13,14],1),(100005,[0,12,1,13,14],2),(100008,[0,12,1,13,14,6],3),(11,[30,0,12,1,13,14,31,32],3)]
theorem abP (l:List (List Int)) (aA:Bool) (ms:Int):aI cf ir Tryz.f95.results.toList 1 400 [.code (aj Tryz.f95)] ⟨ay Tryz.f95 [.c (.ai 0 0 l.length aA),.c (.int .i64 ms)],([.cL 0 l none]:Heap cod)⟩=
 (let q0:=List.length l;
 cond (decide (32 < Int.ofNat q0)) (.ret (.fin (.c (.int .i64 2)) [])) (.ret (.cut (cutAt Tryz.f95 4) ⟨bc 35 [(0,.c (.ai 0 0 q0 aA)),(0,.c (.int .i64 ms)),(10,.c (.ai 0 0 q0 aA)),(0,.c (.int .i64 (Int.ofNat q0))),(0,.c (.int .i64 0))],[.cL 0 (l) none]⟩))):=by kernel_rfl
def zr (l:List (List Int)) (aA:Bool) (ms:Int) (i:Int):St cod:=⟨bc 35 [(0,.c (.ai 0 0 l.length aA)),(0,.c (.int .i64 ms)),(10,.c (.ai 0 0 l.length aA)),(0,.c (.int .i64 (Int.ofNat l.length))),(0,.c (.int .i64 i))],[.cL 0 (l) none]⟩
theorem Td (l:List (List Int)) (aA:Bool) (ms:Int) (i:Int):aI cf ir Tryz.f95.results.toList 1 400 (cutAt Tryz.f95 4) (zr l aA ms i)=
 (let q0:=List.length l;
 cond (decide (i < Int.ofNat q0)) (.ret (.cut (bu Tryz.f95 5) ⟨bc 35 [(0,.c (.ai 0 0 q0 aA)),(0,.c (.int .i64 ms)),(10,.c (.ai 0 0 q0 aA)),(0,.c (.int .i64 (Int.ofNat q0))),(0,.c (.int .i64 i))],[.cL 0 (l) none]⟩)) (cond (decide (ms < 0)) (.ret (.fin (.c (.int .i64 4)) [])) (cond (decide (1099511627776 < ms)) (.ret (.fin (.c (.int .i64 4)) [])) (.ret (.fin (.c (.int .i64 0)) []))))):=by kernel_rfl
def zu (l:List (List Int)) (aA:Bool) (ms:Int) (i:Int) (j:Nat) (q:List Int):St cod:=⟨bc 35 [(0,.c (.ai 0 0 l.length aA)),(0,.c (.int .i64 ms)),(10,.c (.ai 0 0 l.length aA)),(0,.c (.int .i64 (Int.ofNat l.length))),(0,.c (.int .i64 i))],([.cL 0 l (some (j,.ai 1 0 q.length false)),.aB 0 q]:Heap cod)⟩
theorem Tf (l:List (List Int)) (aA:Bool) (ms:Int) (i:Int) (j:Nat) (q:List Int):aI cf qQ Tryz.f95.results.toList 1 400 (bu Tryz.f95 5) (zu l aA ms i j q)=
 (let q0:=List.length l;
 let q1:=List.length q;
 .aa (((0:Int)≤i∧i < Int.ofNat q0)) (.aa ((0+Int.toNat i=j∧j < List.length l)) (cond (decide (32 < Int.ofNat q1)) (.ret (.fin (.c (.int .i64 2)) [])) (.ret (.cut (bu Tryz.f95 8) ⟨bc 35 [(0,.c (.ai 0 0 q0 aA)),(0,.c (.int .i64 ms)),(4,.c (.ai 1 0 q1 false)),(5,.c (.ai 0 0 q0 aA)),(0,.c (.int .i64 (Int.ofNat q0))),(0,.c (.int .i64 i))],[.cL 0 (l) (some ((j),.ai 1 0 q1 false)),.aB 0 q]⟩))))):=by kernel_rfl
def zw (l:List (List Int)) (aA:Bool) (ms:Int) (i:Int) (q q0:List Int):St cod:=⟨bc 35 [(0,.c (.ai 0 0 l.length aA)),(0,.c (.int .i64 ms)),(4,.c (.ai 1 0 q.length false)),(5,.c (.ai 0 0 l.length aA)),(0,.c (.int .i64 (Int.ofNat l.length))),(0,.c (.int .i64 i))],([.cL 0 l (some (0,.ai 2 0 q0.length false)),.aB 0 q,.aB 0 q0]:Heap cod)⟩
theorem Tg (l:List (List Int)) (aA:Bool) (ms:Int) (i:Int) (q q0:List Int):aI cf qR Tryz.f95.results.toList 1 400 (bu Tryz.f95 8) (zw l aA ms i q q0)=
 (let y0:=List.length l;
 let y1:=List.length q;
 .aa (((0:Int)≤0∧(0:Int) < Int.ofNat y0)) (.aa ((0+Int.toNat 0=0∧(0:Nat) < List.length l)) (cond (!decide (Int.ofNat y1=Int.ofNat q0.length)) (.ret (.fin (.c (.int .i64 3)) [])) (.ret (.cut (cutAt Tryz.f95 11) ⟨bc 17 [(0,.c (.ai 0 0 y0 aA)),(0,.c (.int .i64 ms)),(10,.c (.ai 0 0 y0 aA)),(0,.c (.int .i64 (Int.ofNat y0))),(0,.c (.int .i64 i)),(15,.c (.ai 1 0 y1 false)),(0,.c (.int .i64 (Int.ofNat y1))),(0,.c (.int .i64 0))],[.cL 0 (l) (some (0,.ai 2 0 q0.length false)),.aB 0 q,.aB 0 q0]⟩))))):=by kernel_rfl
def B6 (l:List (List Int)) (aA:Bool) (ms:Int) (i:Int) (q q0:List Int) (k:Int):St cod:=⟨bc 17 [(0,.c (.ai 0 0 l.length aA)),(0,.c (.int .i64 ms)),(10,.c (.ai 0 0 l.length aA)),(0,.c (.int .i64 (Int.ofNat l.length))),(0,.c (.int .i64 i)),(15,.c (.ai 1 0 q.length false)),(0,.c (.int .i64 (Int.ofNat q.length))),(0,.c (.int .i64 k))],[.cL 0 (l) (some (0,.ai 2 0 q0.length false)),.aB 0 q,.aB 0 q0]⟩
theorem MY (l:List (List Int)) (aA:Bool) (ms:Int) (i:Int) (q q0:List Int) (k:Int):aI cf ir Tryz.f95.results.toList 1 400 (cutAt Tryz.f95 11) (B6 l aA ms i q q0 k)=
 (let y0:=List.length l;
 let y1:=List.length q;
 cond (decide (k < Int.ofNat y1)) (.aa (((0:Int)≤k∧k < Int.ofNat y1)) (.aa (0+Int.toNat k < List.length q) (cond (decide (List.getD q (0+Int.toNat k) (cod 0).d < -1)) (.ret (.fin (.c (.int .i64 4)) [])) (cond (decide (1099511627776 < List.getD q (0+Int.toNat k) (cod 0).d)) (.ret (.fin (.c (.int .i64 4)) [])) (.aa (ae (k+1)) (.ret (.cut (cutAt Tryz.f95 11) ⟨bc 17 [(0,.c (.ai 0 0 y0 aA)),(0,.c (.int .i64 ms)),(10,.c (.ai 0 0 y0 aA)),(0,.c (.int .i64 (Int.ofNat y0))),(0,.c (.int .i64 i)),(15,.c (.ai 1 0 y1 false)),(0,.c (.int .i64 (Int.ofNat y1))),(0,.c (.int .i64 (k+1)))],[.cL 0 (l) (some (0,.ai 2 0 q0.length false)),.aB 0 q,.aB 0 q0]⟩))))))) (.ret (.cut (bu Tryz.f95 16) ⟨bc 35 [(0,.c (.ai 0 0 y0 aA)),(0,.c (.int .i64 ms)),(10,.c (.ai 0 0 y0 aA)),(0,.c (.int .i64 (Int.ofNat y0))),(0,.c (.int .i64 i))],[.cL 0 (l) (some (0,.ai 2 0 q0.length false)),.aB 0 q,.aB 0 q0]⟩))):=by kernel_rfl
def zt (l:List (List Int)) (aA:Bool) (ms:Int) (i:Int):St cod:=⟨bc 35 [(0,.c (.ai 0 0 l.length aA)),(0,.c (.int .i64 ms)),(10,.c (.ai 0 0 l.length aA)),(0,.c (.int .i64 (Int.ofNat l.length))),(0,.c (.int .i64 i))],[.cL 0 (l) none]⟩
theorem Te (l:List (List Int)) (aA:Bool) (ms:Int) (i:Int):aI cf qP Tryz.f95.results.toList 1 400 (bu Tryz.f95 16) (zt l aA ms i)=
 (let q0:=List.length l;
 .aa (ae (i+1)) (.ret (.cut (cutAt Tryz.f95 4) ⟨bc 35 [(0,.c (.ai 0 0 q0 aA)),(0,.c (.int .i64 ms)),(10,.c (.ai 0 0 q0 aA)),(0,.c (.int .i64 (Int.ofNat q0))),(0,.c (.int .i64 (i+1)))],[.cL 0 (l) none]⟩))):=by kernel_rfl
theorem Ya (l:List (List Int)) (aA:Bool) (ms:Int) (b0:aC) (hb:b0.n=1) (R:Int) (i:Int) (hi:0≤i∧i≤32) (q q0:List Int) (hq:q.length≤32) (nx:F.JM q=0→Sym.af Tryz.prog b0 (cutAt Tryz.f95 4) (zr l aA ms (i+1)) (Sym.Ends Tryz.prog Tryz.f95 1 (.c (.int .i64 R)) [])) (bad:F.JM q≠0→R=F.JM q):
 ∀(r k:Nat),k+r=q.length→F.JM q=F.JM (q.drop k)→Sym.af Tryz.prog b0 (cutAt Tryz.f95 11) (B6 l aA ms i q q0 (k:Int)) (Sym.Ends Tryz.prog Tryz.f95 1 (.c (.int .i64 R)) []):=by
 have ed:(cod 0).d=(0:Int):=rfl;intro r
 induction r with
 | zero=>
   intro k hk hR;rw [List.drop_eq_nil_of_le (by omega)] at hR;refine af.go (cfg:=cf) bV mixed ir 400 hb (MY l aA ms i q q0 (k:Int)) ?_;simp only [T.wp,T.wp_cond,bF,Int.ofNat_eq_natCast,decide_eq_true_eq,and_true,Nat.zero_add];refine ap (by omega) (af.close 0 rfl ?_);refine af.weaken (bg:=zt l aA ms i) (fun a w hR=>oh [0,12,1,13,14] 1 (by omega) hR) ?_;refine af.go (cfg:=cf) bV mixed qP 400 hb (Te l aA ms i) ?_;simp only [T.wp,bF,Int.ofNat_eq_natCast]
   exact ⟨by unfold ae;omega,nx hR⟩
 | succ r ih=>
   intro k hk hR;have fK:=ih (k+1) (by omega);rw [Int.natCast_succ] at fK;have hd:=uQ q 0 k (by omega);refine af.go (cfg:=cf) bV mixed ir 400 hb (MY l aA ms i q q0 (k:Int)) ?_;simp only [T.wp,T.wp_cond,bF,Int.ofNat_eq_natCast,decide_eq_true_eq,and_true,Nat.zero_add,Int.toNat_natCast,ed];rw [hd,F.JM] at hR;generalize q.getD k 0=c at*;refine aq (by omega) ⟨⟨by omega,by omega⟩,by omega,?_⟩;by_cases g:c < -1∨1099511627776 < c
   ·rw [if_pos g] at hR;have:=bad (by rw [hR];decide);rw [hR] at this;subst this;rcases g with g | g
    ·exact aq g (by first | rfl | trivial)
    ·exact ap (by omega) (aq g (by first | rfl | trivial))
   ·rw [if_neg g] at hR;exact ap (by omega) (ap (by omega) ⟨by unfold ae;omega,fK hR⟩)
theorem Yb (l:List (List Int)) (aA:Bool) (ms:Int) (b0:aC) (hb:b0.n=1):Sym.af Tryz.prog b0 [.code (aj Tryz.f95)] ⟨ay Tryz.f95 [.c (.ai 0 0 l.length aA),.c (.int .i64 ms)],([.cL 0 l none]:Heap cod)⟩ (Sym.Ends Tryz.prog Tryz.f95 1 (.c (.int .i64 (F.cE l ms))) []):=by
 have ed:(cod 0).d=(0:Int):=rfl;refine af.go (cfg:=cf) bV mixed ir 400 hb (abP l aA ms) ?_;unfold F.cE;by_cases h32:32 < l.length
 ·rw [if_pos h32];simp only [T.wp,T.wp_cond,bF,Int.ofNat_eq_natCast,decide_eq_true_eq,and_true];exact aq (by omega) (by first | rfl | trivial)
 rw [if_neg h32]
 have h4:∀R:Int,R=(if F.tV (l.getD 0 []).length l=0 then (if ms < 0∨1099511627776 < ms then 4 else 0) else F.tV (l.getD 0 []).length l)→∀(r i:Nat),i+r=l.length→F.tV (l.getD 0 []).length l=F.tV (l.getD 0 []).length (l.drop i)→Sym.af Tryz.prog b0 (cutAt Tryz.f95 4) (zr l aA ms (i:Int)) (Sym.Ends Tryz.prog Tryz.f95 1 (.c (.int .i64 R)) []):=by
  intro R hR r
  induction r with
  | zero=>
    intro i hi hP;rw [List.drop_eq_nil_of_le (by omega),F.tV] at hP;rw [if_pos hP] at hR;refine af.go (cfg:=cf) bV mixed ir 400 hb (Td l aA ms (i:Int)) ?_;simp only [T.wp,T.wp_cond,bF,Int.ofNat_eq_natCast,decide_eq_true_eq,and_true];refine ap (by omega) ?_;by_cases g:ms < 0∨1099511627776 < ms
    ·rw [if_pos g] at hR;subst hR;rcases g with g | g
     ·exact aq g (by first | rfl | trivial)
     ·exact ap (by omega) (aq g (by first | rfl | trivial))
    ·rw [if_neg g] at hR;subst hR
     exact ap (by omega) (ap (by omega) (by first | rfl | trivial))
  | succ r ih=>
    intro i hi hP;have mB:i < l.length:=by omega
    have h0l:0 < l.length:=by omega
    have nx:=ih (i+1) (by omega);rw [Int.natCast_succ] at nx;rw [uQ l [] i mB,F.tV] at hP;refine af.go (cfg:=cf) bV mixed ir 400 hb (Td l aA ms (i:Int)) ?_;simp only [T.wp,T.wp_cond,bF,Int.ofNat_eq_natCast,decide_eq_true_eq,and_true];refine aq (by omega) ?_;refine af.open 0 i rfl mB rfl ?_;refine af.weaken (bg:=zu l aA ms (i:Int) i (l.getD i [])) (fun a w hR=>hR) ?_;generalize l.getD i []=q at*;refine af.go (cfg:=cf) bV mixed qQ 400 hb (Tf l aA ms (i:Int) i q) ?_;simp only [T.wp,T.wp_cond,bF,Int.ofNat_eq_natCast,decide_eq_true_eq,and_true,true_and,Nat.zero_add,Int.toNat_natCast];refine ⟨⟨by omega,by omega⟩,mB,?_⟩;unfold F.rwE at hP;by_cases c:32 < q.length
    ·rw [if_pos c,if_neg (by decide)] at hP;rw [hP,if_neg (by decide)] at hR;subst hR;exact aq (by omega) (by first | rfl | trivial)
    rw [if_neg c] at hP;refine ap (by omega) ?_;refine af.open 0 0 rfl h0l rfl ?_;refine af.weaken (bg:=zw l aA ms (i:Int) q (l.getD 0 [])) (fun a w hR=>hR) ?_;generalize l.getD 0 []=q0 at*;refine af.go (cfg:=cf) bV mixed qR 400 hb (Tg l aA ms (i:Int) q q0) ?_;simp only [T.wp,T.wp_cond,bF,Int.ofNat_eq_natCast,and_true,true_and,Nat.zero_add,Bool.not_eq_true',decide_eq_false_iff_not,Int.toNat_zero];refine ⟨⟨by omega,by omega⟩,h0l,?_⟩;by_cases c2:q.length=q0.length
    ·have e3:(if q.length≠q0.length then (3:Int) else F.JM q)=F.JM q:=if_neg (fun h=>h c2);rw [e3] at hP;refine ap (by omega) (Ya l aA ms b0 hb R (i:Int) ⟨by omega,by omega⟩ q q0 (by omega) (fun hz=>nx (by rw [hP,if_pos hz])) (fun hz=>?_) q.length 0 (by omega) rfl);rw [if_neg hz] at hP;rw [hP,if_neg hz] at hR;exact hR
    ·have e3:(if q.length≠q0.length then (3:Int) else F.JM q)=3:=if_pos c2;rw [e3,if_neg (by decide)] at hP;rw [hP,if_neg (by decide)] at hR;subst hR;exact aq (by omega) (by first | rfl | trivial)
 have:=h4 _ rfl l.length 0 (by omega) rfl;simp only [T.wp,T.wp_cond,bF,Int.ofNat_eq_natCast,decide_eq_true_eq,and_true];exact ap (by omega) this
def Wb:aH cod:=fun args H=>match args,H with
 | [.c (.ai 0 cF cA _),.c (.int .i64 ms)],[o0]=>(match o0.oV 0 with | some l=>.aa ((cF=0∧cA=List.length l)) (.ret (.c (.int .i64 (F.cE l ms)),[])) | none=>.fail)
 | _,_=>.fail
theorem OJ:Sound Tryz.prog cod 95 Wb:=ax (cfg:=cf) bV mixed Tryz.func95 rfl rfl _ fun args H r news hg b0 hb=>by
 unfold Wb at hg;split at hg
 ·skip
  split at hg
  ·rename_i l gG;cases fM gG;simp only [T.ah,T.wp,Prod.mk.injEq] at hg;obtain ⟨⟨rfl,rfl⟩,rfl,rfl⟩:=hg;exact Yb _ _ _ b0 hb
  ·exact hg.elim
 ·exact hg.elim
def R4:aQ cod:=(95,.p Wb)::iY
def E2:aT cod:=c9 R4
theorem qv:cv Tryz.prog cod R4:=.cons OJ bV
def FZ:bA:=[(100003,[0],2)]
def rc:bA:=[]
theorem adL (l:List (List Int)) (aA:Bool):aI E2 FZ Tryz.f62.results.toList 1 400 [.code (aj Tryz.f62)] ⟨ay Tryz.f62 [.c (.ai 0 0 l.length aA)],([.cL 0 l none]:Heap cod)⟩=
 cond (decide (Int.ofNat l.length=0)) (
 .ret (.fin (.c (.int .i64 0)) [])) (
 .ret (.cut (bu Tryz.f62 3) ⟨bc 9 [(0,.c (.ai 0 0 l.length aA))],[.cL 0 (l) none]⟩)):=by kernel_rfl
def zK (l:List (List Int)) (aA:Bool) (q:List Int):St cod:=⟨bc 9 [(0,.c (.ai 0 0 l.length aA))],([.cL 0 l (some (0,.ai 1 0 q.length false)),.aB 0 q]:Heap cod)⟩
theorem Xm (l:List (List Int)) (aA:Bool) (q:List Int):aI E2 rc Tryz.f62.results.toList 1 400 (bu Tryz.f62 3) (zK l aA q)=
.aa (((0:Int)≤0∧(0:Int) < Int.ofNat l.length)) (
.aa ((0+Int.toNat 0=0∧(0:Nat) < List.length l)) (
.ret (.fin (.c (.int .i64 (Int.ofNat q.length))) []))):=by kernel_rfl
theorem aau (l:List (List Int)) (aA:Bool) (b0:aC) (hb:b0.n=1):Sym.af Tryz.prog b0 [.code (aj Tryz.f62)] ⟨ay Tryz.f62 [.c (.ai 0 0 l.length aA)],([.cL 0 l none]:Heap cod)⟩ (Sym.Ends Tryz.prog Tryz.f62 1 (.c (.int .i64 (Int.ofNat (l.getD 0 []).length))) []):=by
 refine af.go (cfg:=E2) qv mixed FZ 400 hb (adL l aA) ?_;by_cases h:l.length=0
 ·have e:l=[]:=List.eq_nil_of_length_eq_zero h;subst e;simp only [T.wp,T.wp_cond,bF,Int.ofNat_eq_natCast,decide_eq_true_eq,and_true];exact aq (by simp) (by first | rfl | trivial)
 ·have h0l:0 < l.length:=by omega
  simp only [T.wp,T.wp_cond,bF,Int.ofNat_eq_natCast,decide_eq_true_eq,and_true];refine ap (by omega) ?_;refine af.open 0 0 rfl h0l rfl ?_;refine af.weaken (bg:=zK l aA (l.getD 0 [])) (fun a w hR=>hR) ?_;generalize l.getD 0 []=q at*;refine af.go (cfg:=E2) qv mixed rc 400 hb (Xm l aA q) ?_;simp only [T.wp,bF,Int.ofNat_eq_natCast,and_true,true_and,Nat.zero_add,Int.toNat_zero];exact ⟨by omega,h0l⟩
def Wz:aH cod:=fun args H=>match args,H with
 | [.c (.ai 0 cF cA _)],[o0]=>(match o0.oV 0 with | some l=>.aa ((cF=0∧cA=List.length l)) (.ret (.c (.int .i64 (Int.ofNat (l.getD 0 []).length)),[])) | none=>.fail)
 | _,_=>.fail
theorem Rj:Sound Tryz.prog cod 62 Wz:=ax (cfg:=E2) qv mixed Tryz.func62 rfl rfl _ fun args H r news hg b0 hb=>by
 unfold Wz at hg;split at hg
 ·skip
  split at hg
  ·rename_i l gG;cases fM gG;simp only [T.ah,T.wp,Prod.mk.injEq] at hg;obtain ⟨⟨rfl,rfl⟩,rfl,rfl⟩:=hg;exact aau _ _ b0 hb
  ·exact hg.elim
 ·exact hg.elim
def SH:aQ cod:=(62,.p Wz)::R4
def E9:aT cod:=c9 SH
theorem qB:cv Tryz.prog cod SH:=.cons Rj qv
namespace F
def fg (L:List (List Int)) (tk:List Bool):Prop:=∀r∈L,r.length=tk.length
end F
def Be:bA:=[(100005,[1,0,5,4],7)]
def oY:bA:=[]
theorem Yj (i:Int) (k:Int) (kM:Int) (ms:Int) (tk:List Bool) (bp:Bool) (L:List (List Int)) (bU:Bool) (oU qm:Nat):aI E9 Be Tryz.f96.results.toList 6 400 [.code (aj Tryz.f96)] ⟨ay Tryz.f96 [.c (.int .i64 i),.c (.int .i64 k),.c (.ptr 0 0 0),.c (.ptr 1 0 0),.c (.ptr 2 0 0),.c (.ptr 3 0 0)],([.aY [.int .i64 kM],.aY [.int .i64 ms],.aY [.ai 4 0 tk.length bp],.aY [.ai 5 oU qm bU],.aB 3 tk,.cL 0 L none]:Heap cod)⟩=
 cond (decide (kM≤k)) (
 .aa (ae (k - kM)) (
 cond (decide (k - kM=i)) (
  .ret (.fin (.c (.int .i64 ms)) [])) (
  .ret (.fin (.c (.int .i64 36028797018963968)) [])))) (
 .ret (.cut (bu Tryz.f96 5) ⟨bc 35 [(0,.c (.int .i64 i)),(0,.c (.int .i64 k)),(2,.c (.ptr 2 0 0)),(0,.c (.ptr 3 0 0))],[.aY [.int .i64 kM],.aY [.int .i64 ms],.aY [.ai 4 0 tk.length bp],.aY [.ai 5 (oU) (qm) bU],.aB 3 tk,.cL 0 (L) none]⟩)):=by kernel_rfl
def vg (i:Int) (k:Int) (kM:Int) (ms:Int) (tk:List Bool) (bp:Bool) (L:List (List Int)) (bU:Bool) (oU qm:Nat) (j:Nat) (q:List Int):St cod:=⟨bc 35 [(0,.c (.int .i64 i)),(0,.c (.int .i64 k)),(2,.c (.ptr 2 0 0)),(0,.c (.ptr 3 0 0))],([.aY [.int .i64 kM],.aY [.int .i64 ms],.aY [.ai 4 0 tk.length bp],.aY [.ai 5 oU qm bU],.aB 3 tk,.cL 0 L (some (j,.ai 6 0 q.length false)),.aB 0 q]:Heap cod)⟩
theorem OS (i:Int) (k:Int) (kM:Int) (ms:Int) (tk:List Bool) (bp:Bool) (L:List (List Int)) (bU:Bool) (oU qm:Nat) (j:Nat) (q:List Int):aI E9 oY Tryz.f96.results.toList 6 400 (bu Tryz.f96 5) (vg i k kM ms tk bp L bU oU qm j q)=
.aa (((0:Int)≤k∧k < Int.ofNat tk.length)) (
.aa (0+Int.toNat k < List.length tk) (
 cond (List.getD tk (0+Int.toNat k) (cod 3).d) (
 .ret (.fin (.c (.int .i64 36028797018963968)) [])) (
 .aa (((0:Int)≤i∧i < Int.ofNat qm)) (
 .aa ((oU+Int.toNat i=j∧j < List.length L)) (
 .aa (((0:Int)≤k∧k < Int.ofNat q.length)) (
 .aa (0+Int.toNat k < List.length q) (
 cond (decide (List.getD q (0+Int.toNat k) (cod 0).d < 0)) (
  .ret (.fin (.c (.int .i64 36028797018963968)) [])) (
  .aa (((0:Int)≤i∧i < Int.ofNat qm)) (
  .aa ((oU+Int.toNat i=j∧j < List.length L)) (
  .aa (((0:Int)≤k∧k < Int.ofNat q.length)) (
  .aa (0+Int.toNat k < List.length q) (
  .ret (.fin (.c (.int .i64 (List.getD q (0+Int.toNat k) (cod 0).d))) []))))))))))))):=by kernel_rfl
theorem VL {α:Type} (l:List α) (d:α) (i n k:Nat) (hk:k < n):((l.drop i).take n).getD k d=l.getD (i+k) d:=by
 rw [List.getD_eq_getElem?_getD,List.getElem?_take_of_lt hk,List.getElem?_drop,List.getD_eq_getElem?_getD]
theorem Tq (i:Int) (k:Int) (kM:Int) (ms:Int) (tk:List Bool) (bp:Bool) (L:List (List Int)) (bU:Bool) (oU qm:Nat) (b0:aC) (hb:b0.n=6) (h0:oU+qm≤List.length L) (h1:kM=(List.length tk:Int)∧List.length tk≤32) (h2:0≤k∧k≤100) (h3:0≤i∧i < (qm:Int)∧qm≤32) (h4:F.fg L tk):Sym.af Tryz.prog b0 [.code (aj Tryz.f96)] ⟨ay Tryz.f96 [.c (.int .i64 i),.c (.int .i64 k),.c (.ptr 0 0 0),.c (.ptr 1 0 0),.c (.ptr 2 0 0),.c (.ptr 3 0 0)],([.aY [.int .i64 kM],.aY [.int .i64 ms],.aY [.ai 4 0 tk.length bp],.aY [.ai 5 oU qm bU],.aB 3 tk,.cL 0 L none]:Heap cod)⟩ (Sym.Ends Tryz.prog Tryz.f96 6 (.c (.int .i64 (F.Ak ((L.drop oU).take qm) tk.length ms tk i.toNat k.toNat))) []):=by
 refine af.go (cfg:=E9) qB mixed Be 400 hb (Yj i k kM ms tk bp L bU oU qm) ?_;obtain ⟨rfl,h1⟩:=h1;have e0:(cod 0).d=(0:Int):=rfl;have e4:(cod 3).d=false:=rfl;unfold F.Ak;by_cases c:tk.length≤k.toNat
 ·rw [if_pos c];simp only [T.wp,T.wp_cond,bF,decide_eq_true_eq,and_true];refine aq (by omega) ⟨by unfold ae;omega,?_⟩;by_cases c2:k.toNat - tk.length=i.toNat
  ·rw [if_pos c2];exact aq (by omega) (by first | rfl | trivial)
  ·rw [if_neg c2];exact ap (by omega) (by first | rfl | trivial)
 ·rw [if_neg c];simp only [T.wp,T.wp_cond,bF,decide_eq_true_eq,and_true];refine ap (by omega) ?_;have mB:oU+i.toNat < L.length:=by omega
  have hql:(L.getD (oU+i.toNat) []).length=tk.length:=h4 _ (F.nu mB);rw [VL L [] oU qm i.toNat (by omega)];refine af.open 5 (oU+i.toNat) rfl mB rfl ?_;refine af.weaken (bg:=vg i k (tk.length:Int) ms tk bp L bU oU qm (oU+i.toNat) (L.getD (oU+i.toNat) [])) (fun a w hR=>hR) ?_;generalize L.getD (oU+i.toNat) []=q at*;generalize hV:(if tk.getD k.toNat false=true∨q.getD k.toNat 0 < 0 then (36028797018963968:Int) else q.getD k.toNat 0)=V;refine af.go (cfg:=E9) qB mixed oY 400 hb (OS i k (tk.length:Int) ms tk bp L bU oU qm (oU+i.toNat) q) ?_;simp only [T.wp,T.wp_cond,bF,Int.ofNat_eq_natCast,decide_eq_true_eq,and_true,true_and,Nat.zero_add,e0,e4];refine ⟨⟨by omega,by omega⟩,by omega,?_⟩;have zi:(0:Int)≤i∧i < (qm:Int):=⟨by omega,by omega⟩;have zk:(0:Int)≤k∧k < (q.length:Int):=⟨by omega,by omega⟩;have zq:k.toNat < q.length:=by omega
  by_cases g:tk.getD k.toNat false=true
  ·rw [if_pos (.inl g)] at hV;subst hV;exact aq g (by first | rfl | trivial)
  ·refine ap g ⟨zi,mB,zk,zq,?_⟩;by_cases g2:q.getD k.toNat 0 < 0
   ·rw [if_pos (.inr g2)] at hV;subst hV;exact aq g2 (by first | rfl | trivial)
   ·rw [if_neg (by rintro (h | h);exact g h;exact g2 h)] at hV;subst hV;exact ap g2 ⟨zi,mB,zk,zq,by first | rfl | trivial⟩
def K6:aH cod:=fun args H=>match args,H with
 | [.c (.int .i64 i),.c (.int .i64 k),.c (.ptr 0 0 0),.c (.ptr 1 0 0),.c (.ptr 2 0 0),.c (.ptr 3 0 0)],[.aY [.int .i64 kM],.aY [.int .i64 ms],.aY [.ai 4 adH adI _],.aY [.ai 5 oU qm _],o4,o5]=>(match o4.cV 3 with | some tk=>(match o5.oV 0 with | some L=>.aa ((adH=0∧adI=List.length tk)∧(oU+qm≤List.length L)∧(kM=(List.length tk:Int)∧List.length tk≤32)∧(0≤k∧k≤100)∧(0≤i∧i < (qm:Int)∧qm≤32)∧(F.fg L tk)) (.ret (.c (.int .i64 (F.Ak ((L.drop oU).take qm) tk.length ms tk i.toNat k.toNat)),[])) | none=>.fail) | none=>.fail)
 | _,_=>.fail
theorem JB:Sound Tryz.prog cod 96 K6:=ax (cfg:=E9) qB mixed Tryz.func96 rfl rfl _ fun args H r news hg b0 hb=>by
 unfold K6 at hg;split at hg
 ·skip
  split at hg
  ·rename_i tk hx4;cases aR hx4;split at hg
   ·rename_i L hx5;cases fM hx5;simp only [T.ah,T.wp,Prod.mk.injEq] at hg;obtain ⟨⟨⟨rfl,rfl⟩,q1,q2,q3,q4,q5⟩,rfl,rfl⟩:=hg;exact Tq _ _ _ _ _ _ _ _ _ _ b0 hb (by assumption) (by assumption) (by assumption) (by assumption) (by assumption)
   ·exact hg.elim
  ·exact hg.elim
 ·exact hg.elim
def IN:aQ cod:=(96,.p K6)::SH
def cO:aT cod:=c9 IN
theorem cH:cv Tryz.prog cod IN:=.cons JB qB
end
end
end Go.Proofs.YtcjagpfbhnmggaaGreatDoor
