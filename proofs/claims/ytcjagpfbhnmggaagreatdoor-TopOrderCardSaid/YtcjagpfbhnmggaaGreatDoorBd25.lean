/- Parts of the proof. -/
import Derived.Test.YtcjagpfbhnmggaaGreatDoorBd21
namespace Go.Proofs.YtcjagpfbhnmggaaGreatDoor
section
open Sym Go.RowKit
noncomputable section
set_option maxRecDepth 100000
set_option maxHeartbeats 4000000
namespace F
abbrev C6:=Int×Int×Int×Int×Int×Int
def d6:C6:=(0,0,0,0,0,0)
def tH (p:C6→Bool) (l:List C6):Nat→Nat→Int→Int
 | 0,_,_=>-1
 | m+1,j,i=>if p (l.getD j d6) then i else tH p l m (j+1) (i+1)
def XB (a:Int) (x:C6):Bool:=decide (x.1=a)
def va (x:C6):Int:=iD x.1 x.2.1 x.2.2.1 x.2.2.2.1 x.2.2.2.2.1 x.2.2.2.2.2
def mck (l:List C6):Nat→Nat→Int
 | 0,_=>0
 | m+1,j=>if va (l.getD j d6)≠0 then va (l.getD j d6) else (if (l.take j).any (XB (l.getD j d6).1) then 7 else mck l m (j+1))
def rA (l:List C6):Int:=if 4 < l.length then 2 else mck l l.length 0
end F
def A7:bA:=[]
theorem X8 (x1 x2 x3 x4 x5 x6:Int) (a b c d e f:Int):aI jl A7 Tryz.f85.results.toList 1 400 [.code (aj Tryz.f85)] ⟨ay Tryz.f85 [.agg [.int .i64 x1,.int .i64 x2,.int .i64 x3,.int .i64 x4,.int .i64 x5,.int .i64 x6],.c (.ptr 0 0 0)],([.aY [.int .i64 a,.int .i64 b,.int .i64 c,.int .i64 d,.int .i64 e,.int .i64 f]]:Heap cod)⟩=
.ret (.fin (.c (.bool (decide (x1=a)))) []):=by kernel_rfl
theorem Ta (x1 x2 x3 x4 x5 x6:Int) (a b c d e f:Int) (b0:aC) (hb:b0.n=1):Sym.af Tryz.prog b0 [.code (aj Tryz.f85)] ⟨ay Tryz.f85 [.agg [.int .i64 x1,.int .i64 x2,.int .i64 x3,.int .i64 x4,.int .i64 x5,.int .i64 x6],.c (.ptr 0 0 0)],([.aY [.int .i64 a,.int .i64 b,.int .i64 c,.int .i64 d,.int .i64 e,.int .i64 f]]:Heap cod)⟩ (Sym.Ends Tryz.prog Tryz.f85 1 (.c (.bool (decide (x1=a)))) []):=by
 refine af.go (cfg:=jl) eQ mixed A7 400 hb (X8 x1 x2 x3 x4 x5 x6 a b c d e f) ?_;simp [T.wp,bF]
def KY:aH cod:=fun args H=>match args,H with
 | [.agg [.int .i64 x1,.int .i64 _,.int .i64 _,.int .i64 _,.int .i64 _,.int .i64 _],.c (.ptr 0 0 0)],[.aY [.int .i64 a,.int .i64 _,.int .i64 _,.int .i64 _,.int .i64 _,.int .i64 _]]=>.ret (.c (.bool (decide (x1=a))),[])
 | _,_=>.fail
theorem Jr:Sound Tryz.prog cod 85 KY:=ax (cfg:=jl) eQ mixed Tryz.func85 rfl rfl _ fun args H r news hg b0 hb=>by
 unfold KY at hg;split at hg
 ·skip
  cases hg;exact Ta _ _ _ _ _ _ _ _ _ _ _ _ b0 hb
 ·exact hg.elim
def IF:aQ cod:=(85,.p KY)::mO
def sv:aT cod:=c9 IF
theorem kC:cv Tryz.prog cod IF:=.cons Jr eQ
def kP:bA:=[(2,[0,1,7,8],2)]
theorem Y5 (l:List (Int×Int×Int×Int×Int×Int)) (aA:Bool) (cF cA:Nat) (a b c d e f:Int):aI sv kP Tryz.f120.results.toList 2 400 [.code (aj Tryz.f120)] ⟨ay Tryz.f120 [.c (.ai 0 cF cA aA),.c (.fn 85 [(1,0,0)])],([.aB 2 l,.aY [.int .i64 a,.int .i64 b,.int .i64 c,.int .i64 d,.int .i64 e,.int .i64 f]]:Heap cod)⟩=
.ret (.cut (cutAt Tryz.f120 2) ⟨bc 10 [(0,.c (.ai 0 (cF) (cA) aA)),(0,.c (.fn 85 [(1,0,0)])),(5,.c (.int .i64 (Int.ofNat cA))),(0,.c (.int .i64 0))],[.aB 2 l,.aY [.int .i64 a,.int .i64 b,.int .i64 c,.int .i64 d,.int .i64 e,.int .i64 f]]⟩):=by kernel_rfl
def B8 (l:List (Int×Int×Int×Int×Int×Int)) (aA:Bool) (cF cA:Nat) (a b c d e f:Int) (i:Int):St cod:=⟨bc 10 [(0,.c (.ai 0 (cF) (cA) aA)),(0,.c (.fn 85 [(1,0,0)])),(5,.c (.int .i64 (Int.ofNat cA))),(0,.c (.int .i64 i))],[.aB 2 l,.aY [.int .i64 a,.int .i64 b,.int .i64 c,.int .i64 d,.int .i64 e,.int .i64 f]]⟩
theorem Nu (l:List (Int×Int×Int×Int×Int×Int)) (aA:Bool) (cF cA:Nat) (a b c d e f:Int) (i:Int):aI sv kP Tryz.f120.results.toList 2 400 (cutAt Tryz.f120 2) (B8 l aA cF cA a b c d e f i)=
 cond (decide (i < Int.ofNat cA)) (
 .aa (((0:Int)≤i∧i < Int.ofNat cA)) (
 .aa (cF+Int.toNat i < List.length l) (
 cond (decide ((List.getD l (cF+Int.toNat i) (cod 2).d).1=a)) (
  .ret (.fin (.c (.int .i64 i)) [])) (
  .aa (ae (i+1)) (
  .ret (.cut (cutAt Tryz.f120 2) ⟨bc 10 [(0,.c (.ai 0 (cF) (cA) aA)),(0,.c (.fn 85 [(1,0,0)])),(5,.c (.int .i64 (Int.ofNat cA))),(0,.c (.int .i64 (i+1)))],[.aB 2 l,.aY [.int .i64 a,.int .i64 b,.int .i64 c,.int .i64 d,.int .i64 e,.int .i64 f]]⟩)))))) (
 .ret (.fin (.c (.int .i64 (-1))) [])):=by kernel_rfl
theorem PA (l:List F.C6) (aA:Bool) (cF cA:Nat) (a b c d e f:Int) (h1:cF+cA≤l.length) (h2:l.length≤1000000) (b0:aC) (Ps:b0.n=2) (R:SV):∀(m:Nat) (i:Int),0≤i→i+m=cA→R= .c (.int .i64 (F.tH (F.XB a) l m (cF+i.toNat) i))→
 Sym.af Tryz.prog b0 (cutAt Tryz.f120 2) (B8 l aA cF cA a b c d e f i) (Sym.Ends Tryz.prog Tryz.f120 2 R []):=by
 intro m
 induction m with
 | zero=>
   intro i h0 hm hR;refine af.go (cfg:=sv) kC mixed kP 400 Ps (Nu l aA cF cA a b c d e f i) ?_;have k1:¬i < (cA:Int):=by omega
   simp only [T.wp,T.wp_cond,bF,Int.ofNat_eq_natCast,decide_eq_true_eq,and_true,k1,if_false,hR]
   rfl
 | succ m ih=>
   intro i h0 hm hR;have k1:i < (cA:Int):=by omega
   have k2:cF+i.toNat < l.length:=by omega
   have k3:ae (i+1):=by unfold ae;omega
   have k4:cF+(i+1).toNat=cF+i.toNat+1:=by omega
   have hd:(cod 2).d=F.d6:=rfl;have nx:=ih (i+1) (by omega) (by omega);rw [k4] at nx;refine af.go (cfg:=sv) kC mixed kP 400 Ps (Nu l aA cF cA a b c d e f i) ?_;simp only [T.wp,T.wp_cond,bF,Int.ofNat_eq_natCast,decide_eq_true_eq,and_true,true_and,h0,k1,k2,k3,hd,if_true];simp only [F.tH,F.XB,decide_eq_true_eq] at hR;by_cases hq:(l.getD (cF+i.toNat) F.d6).1=a
   ·rw [if_pos hq] at hR ⊢;rw [hR]
   ·rw [if_neg hq] at hR ⊢;exact nx hR
theorem UI (l:List (Int×Int×Int×Int×Int×Int)) (aA:Bool) (cF cA:Nat) (a b c d e f:Int) (b0:aC) (hb:b0.n=2) (h0:cF+cA≤List.length l) (h1:List.length l≤1000000):Sym.af Tryz.prog b0 [.code (aj Tryz.f120)] ⟨ay Tryz.f120 [.c (.ai 0 cF cA aA),.c (.fn 85 [(1,0,0)])],([.aB 2 l,.aY [.int .i64 a,.int .i64 b,.int .i64 c,.int .i64 d,.int .i64 e,.int .i64 f]]:Heap cod)⟩ (Sym.Ends Tryz.prog Tryz.f120 2 (.c (.int .i64 (F.tH (F.XB a) l cA cF 0))) []):=by
 refine af.go (cfg:=sv) kC mixed kP 400 hb (Y5 l aA cF cA a b c d e f) ?_;simp only [T.wp,bF,Int.ofNat_eq_natCast];exact PA l aA cF cA a b c d e f h0 h1 b0 hb _ cA 0 (by omega) (by omega) rfl
def Le:aH cod:=fun args H=>match args,H with
 | [.c (.ai 0 cF cA _),.c (.fn 85 [(1,0,0)])],[o0,.aY [.int .i64 a,.int .i64 _,.int .i64 _,.int .i64 _,.int .i64 _,.int .i64 _]]=>(match o0.cV 2 with | some l=>.aa ((cF+cA≤List.length l)∧(List.length l≤1000000)) (.ret (.c (.int .i64 (F.tH (F.XB a) l cA cF 0)),[])) | none=>.fail)
 | _,_=>.fail
theorem Ki:Sound Tryz.prog cod 120 Le:=ax (cfg:=sv) kC mixed Tryz.func120 rfl rfl _ fun args H r news hg b0 hb=>by
 unfold Le at hg;split at hg
 ·skip
  split at hg
  ·rename_i l gG;cases aR gG;simp only [T.ah,T.wp,Prod.mk.injEq] at hg;obtain ⟨⟨q0,q1⟩,rfl,rfl⟩:=hg;exact UI _ _ _ _ _ _ _ _ _ _ b0 hb (by assumption) (by assumption)
  ·exact hg.elim
 ·exact hg.elim
def IT:aQ cod:=(120,.p Le)::IF
def Iu:aT cod:=c9 IT
theorem sW:cv Tryz.prog cod IT:=.cons Ki kC
def Bc:bA:=[]
theorem Yg (l:List (Int×Int×Int×Int×Int×Int)) (aA:Bool) (cF cA:Nat) (a b c d e f:Int):aI Iu Bc Tryz.f84.results.toList 2 400 [.code (aj Tryz.f84)] ⟨ay Tryz.f84 [.c (.ai 0 cF cA aA),.c (.fn 85 [(1,0,0)])],([.aB 2 l,.aY [.int .i64 a,.int .i64 b,.int .i64 c,.int .i64 d,.int .i64 e,.int .i64 f]]:Heap cod)⟩=
.aa ((cF+cA≤List.length l∧List.length l≤1000000)) (
.ret (.fin (.c (.bool (decide (0≤F.tH (F.XB a) l cA cF 0)))) [])):=by kernel_rfl
theorem Tm (l:List (Int×Int×Int×Int×Int×Int)) (aA:Bool) (cF cA:Nat) (a b c d e f:Int) (b0:aC) (hb:b0.n=2) (h0:cF+cA≤List.length l) (h1:List.length l≤1000000):Sym.af Tryz.prog b0 [.code (aj Tryz.f84)] ⟨ay Tryz.f84 [.c (.ai 0 cF cA aA),.c (.fn 85 [(1,0,0)])],([.aB 2 l,.aY [.int .i64 a,.int .i64 b,.int .i64 c,.int .i64 d,.int .i64 e,.int .i64 f]]:Heap cod)⟩ (Sym.Ends Tryz.prog Tryz.f84 2 (.c (.bool (decide (0≤F.tH (F.XB a) l cA cF 0)))) []):=by
 refine af.go (cfg:=Iu) sW mixed Bc 400 hb (Yg l aA cF cA a b c d e f) ?_;simp [T.wp,bF,h0,h1]
def K4:aH cod:=fun args H=>match args,H with
 | [.c (.ai 0 cF cA _),.c (.fn 85 [(1,0,0)])],[o0,.aY [.int .i64 a,.int .i64 _,.int .i64 _,.int .i64 _,.int .i64 _,.int .i64 _]]=>(match o0.cV 2 with | some l=>.aa ((cF+cA≤List.length l)∧(List.length l≤1000000)) (.ret (.c (.bool (decide (0≤F.tH (F.XB a) l cA cF 0))),[])) | none=>.fail)
 | _,_=>.fail
theorem Jx:Sound Tryz.prog cod 84 K4:=ax (cfg:=Iu) sW mixed Tryz.func84 rfl rfl _ fun args H r news hg b0 hb=>by
 unfold K4 at hg;split at hg
 ·skip
  split at hg
  ·rename_i l gG;cases aR gG;simp only [T.ah,T.wp,Prod.mk.injEq] at hg;obtain ⟨⟨q0,q1⟩,rfl,rfl⟩:=hg;exact Tm _ _ _ _ _ _ _ _ _ _ b0 hb (by assumption) (by assumption)
  ·exact hg.elim
 ·exact hg.elim
def IL:aQ cod:=(84,.p K4)::IT
def sD:aT cod:=c9 IL
theorem kE:cv Tryz.prog cod IL:=.cons Jx sW
theorem Gu (p:F.C6→Bool) (l:List F.C6):∀(m j:Nat) (i:Int),0≤i→j+m≤l.length→decide (0≤F.tH p l m j i)=((l.drop j).take m).any p
 | 0,j,i,_,_=>by simp [F.tH]
 | m+1,j,i,h0,h1=>by
   have h2:j < l.length:=by omega
   have h3:l.getD j F.d6=l[j]:=by simp [List.getD,List.getElem?_eq_getElem h2]
   rw [F.tH,List.drop_eq_getElem_cons h2,List.take_succ_cons,List.any_cons,h3];cases hp:p l[j]
   ·simp only [Bool.false_eq_true,if_false,Bool.false_or];exact Gu p l m (j+1) (i+1) (by omega) (by omega)
   ·simp [h0]
theorem Pz (p:F.C6→Bool) (l:List F.C6) (i:Nat) (h:i≤l.length):(0≤F.tH p l i 0 0)=((l.take i).any p=true):=by
 have:=Gu p l i 0 0 (by omega) (by omega);rw [List.drop_zero] at this;rw [←this,decide_eq_true_eq]
def iv:bA:=[(4,[0,9,10,11],1)]
theorem PV (l:List (Int×Int×Int×Int×Int×Int)) (aA:Bool):aI sD iv Tryz.f44.results.toList 1 400 [.code (aj Tryz.f44)] ⟨ay Tryz.f44 [.c (.ai 0 0 l.length aA)],([.aB 2 l]:Heap cod)⟩=
 (let q0:=List.length l;
 cond (decide (4 < Int.ofNat q0)) (.ret (.fin (.c (.int .i64 2)) [])) (.ret (.cut (cutAt Tryz.f44 4) ⟨bc 15 [(0,.c (.ai 0 0 q0 aA)),(8,.c (.ai 0 0 q0 aA)),(0,.c (.int .i64 (Int.ofNat q0))),(0,.c (.int .i64 0))],[.aB 2 l]⟩))):=by kernel_rfl
def vn (l:List (Int×Int×Int×Int×Int×Int)) (aA:Bool) (i:Int):St cod:=⟨bc 15 [(0,.c (.ai 0 0 l.length aA)),(8,.c (.ai 0 0 l.length aA)),(0,.c (.int .i64 (Int.ofNat l.length))),(0,.c (.int .i64 i))],[.aB 2 l]⟩
theorem BL (l:List (Int×Int×Int×Int×Int×Int)) (aA:Bool) (i:Int):aI sD iv Tryz.f44.results.toList 1 400 (cutAt Tryz.f44 4) (vn l aA i)=
 (let q0:=List.getD l (0+Int.toNat i) (cod 2).d;
 let q1:=List.length l;
 cond (decide (i < Int.ofNat q1)) (.aa (((0:Int)≤i∧i < Int.ofNat q1)) (.aa (0+Int.toNat i < List.length l) (cond (!decide (F.iD q0.1 q0.2.1 q0.2.2.1 q0.2.2.2.1 q0.2.2.2.2.1 q0.2.2.2.2.2=0)) (.ret (.fin (.c (.int .i64 (F.iD q0.1 q0.2.1 q0.2.2.1 q0.2.2.2.1 q0.2.2.2.2.1 q0.2.2.2.2.2))) [])) (.aa (((0:Int)≤i∧i≤Int.ofNat q1)) (.aa ((0+Int.toNat i≤List.length l∧List.length l≤1000000)) (cond (decide (0≤F.tH (F.XB q0.1) l i.toNat 0 0)) (.ret (.fin (.c (.int .i64 7)) [])) (.aa (ae (i+1)) (.ret (.cut (cutAt Tryz.f44 4) ⟨bc 15 [(0,.c (.ai 0 0 q1 aA)),(8,.c (.ai 0 0 q1 aA)),(0,.c (.int .i64 (Int.ofNat q1))),(0,.c (.int .i64 (i+1)))],[.aB 2 l]⟩))))))))) (.ret (.fin (.c (.int .i64 0)) []))):=by kernel_rfl
theorem GR (l:List F.C6) (aA:Bool) (hl:l.length≤4) (b0:aC) (Ps:b0.n=1) (R:SV):∀(m:Nat) (i:Int),0≤i→i+m=l.length→R= .c (.int .i64 (F.mck l m i.toNat))→
 Sym.af Tryz.prog b0 (cutAt Tryz.f44 4) (vn l aA i) (Sym.Ends Tryz.prog Tryz.f44 1 R []):=by
 intro m
 induction m with
 | zero=>
   intro i h0 hm hR;refine af.go (cfg:=sD) kE mixed iv 400 Ps (BL l aA i) ?_;have k1:¬i < (l.length:Int):=by omega
   simp only [T.wp,T.wp_cond,bF,Int.ofNat_eq_natCast,decide_eq_true_eq,and_true,Nat.zero_add,Bool.not_eq_true',decide_eq_false_iff_not,k1,if_false,hR]
   rfl
 | succ m ih=>
   intro i h0 hm hR;have k1:i < (l.length:Int):=by omega
   have k2:i.toNat < l.length:=by omega
   have k3:ae (i+1):=by unfold ae;omega
   have k4:(i+1).toNat=i.toNat+1:=by omega
   have k5:l.length≤1000000:=by omega
   have k6:i≤(l.length:Int):=by omega
   have k7:i.toNat≤l.length:=by omega
   have hd:(cod 2).d=F.d6:=rfl;have nx:=ih (i+1) (by omega) (by omega);rw [k4] at nx;refine af.go (cfg:=sD) kE mixed iv 400 Ps (BL l aA i) ?_;simp only [T.wp,T.wp_cond,bF,Int.ofNat_eq_natCast,decide_eq_true_eq,and_true,true_and,Nat.zero_add,Bool.not_eq_true',decide_eq_false_iff_not,h0,k1,k2,k3,k5,k6,k7,hd,if_true,Pz _ _ _ (show i.toNat≤l.length by omega)];have e1:F.iD (l.getD i.toNat F.d6).1 (l.getD i.toNat F.d6).2.1 (l.getD i.toNat F.d6).2.2.1 (l.getD i.toNat F.d6).2.2.2.1 (l.getD i.toNat F.d6).2.2.2.2.1 (l.getD i.toNat F.d6).2.2.2.2.2=F.va (l.getD i.toNat F.d6):=rfl;simp only [e1];simp only [F.mck] at hR;by_cases q:F.va (l.getD i.toNat F.d6)=0
   ·rw [if_neg (fun h=>h q)] at hR;rw [if_neg (fun h=>h q)];cases hq:(l.take i.toNat).any (F.XB (l.getD i.toNat F.d6).1)
    ·rw [hq,if_neg (by simp)] at hR;rw [if_neg (by simp)];exact nx hR
    ·rw [hq,if_pos rfl] at hR;rw [if_pos rfl];rw [hR]
   ·rw [if_pos q] at hR ⊢;rw [hR]
theorem Ku (l:List (Int×Int×Int×Int×Int×Int)) (aA:Bool) (b0:aC) (hb:b0.n=1):Sym.af Tryz.prog b0 [.code (aj Tryz.f44)] ⟨ay Tryz.f44 [.c (.ai 0 0 l.length aA)],([.aB 2 l]:Heap cod)⟩ (Sym.Ends Tryz.prog Tryz.f44 1 (.c (.int .i64 (F.rA l))) []):=by
 refine af.go (cfg:=sD) kE mixed iv 400 hb (PV l aA) ?_;by_cases h4:4 < l.length
 ·have h5:(4:Int) < l.length:=by omega
  simp [T.wp,bF,Int.ofNat_eq_natCast,F.rA,h4,h5]
 ·have h5:¬(4:Int) < l.length:=by omega
  simp only [T.wp,T.wp_cond,bF,Int.ofNat_eq_natCast,decide_eq_true_eq,and_true,F.rA,h4,h5,if_false];exact GR l aA (by omega) b0 hb _ l.length 0 (by omega) (by omega) rfl
def yZ:aH cod:=fun args H=>match args,H with
 | [.c (.ai 0 cF cA _)],[o0]=>(match o0.cV 2 with | some l=>.aa ((cF=0∧cA=List.length l)) (.ret (.c (.int .i64 (F.rA l)),[])) | none=>.fail)
 | _,_=>.fail
theorem DO:Sound Tryz.prog cod 44 yZ:=ax (cfg:=sD) kE mixed Tryz.func44 rfl rfl _ fun args H r news hg b0 hb=>by
 unfold yZ at hg;split at hg
 ·skip
  split at hg
  ·rename_i l gG;cases aR gG;simp only [T.ah,T.wp,Prod.mk.injEq] at hg;obtain ⟨⟨rfl,rfl⟩,rfl,rfl⟩:=hg;exact Ku _ _ b0 hb
  ·exact hg.elim
 ·exact hg.elim
def Fh:aQ cod:=(44,.p yZ)::IL
theorem Fi:cv Tryz.prog cod Fh:=.cons DO kE
theorem GS {l:List F.C6}:∀(m j:Nat),F.mck l m j=0→∀k,j≤k→k < j+m→F.va (l.getD k F.d6)=0
 | 0,j,_,k,h1,h2=>by omega
 | m+1,j,h,k,h1,h2=>by
   rw [F.mck] at h;split at h
   ·rename_i q;exact absurd h q
   ·rename_i q;split at h
    ·omega
    ·rcases Nat.lt_or_ge j k with h3 | h3
     ·exact GS m (j+1) h k (by omega) (by omega)
     ·have:k=j:=by omega
      subst this;simpa using q
theorem BM {l:List F.C6} (h:F.rA l=0):l.length≤4∧∀k,k < l.length→F.va (l.getD k F.d6)=0:=by
 unfold F.rA at h;split at h
 ·omega
 ·exact ⟨by omega,fun k hk=>GS _ _ h k (by omega) (by omega)⟩
namespace F
abbrev Sp:=Int×Int×Int×Int×Int×Int
def dq:Sp:=(0,0,0,0,0,0)
def eA (a b:Int):Int:=if a < b then -1 else (if b < a then 1 else 0)
def Ii:List Int→Int
 | []=>0
 | x::l=>if x=0 then Ii l else x
def tl (a b:Sp):Int:=Ii [eA a.1 b.1,eA a.2.2.2.2.2 b.2.2.2.2.2,eA a.2.1 b.2.1,eA a.2.2.1 b.2.2.1,eA a.2.2.2.1 b.2.2.2.1,eA a.2.2.2.2.1 b.2.2.2.2.1]
end F
def yX:aH cod:=fun args H=>match H with
 | []=>match rd args with
   | some [[_]]=>(.ret (.c (.bool false),[]))
   | _=>.fail
 | _=>.fail
theorem GA (n:Int):aI jl [] Tryz.f119.results.toList ([]:Heap cod).length 400 [.code (aj Tryz.f119)] ⟨ay Tryz.f119 [.c (.int .i64 n)],[]⟩=
.ret (.fin (.c (.bool (!decide (n=n)))) []):=by kernel_rfl
theorem DG:Sound Tryz.prog cod 119 yX:=aW (cfg:=jl) eQ mixed Tryz.func119 rfl rfl _ 400 fun args H r news hg=>by
 unfold yX at hg;split at hg
 ·split at hg
  ·rename_i n dn;have aJ:=b8 dn;simp only [List.map,oS] at aJ;subst aJ;clear dn;rw [GA];simp only [T.ah,T.wp,Prod.mk.injEq] at hg;obtain ⟨rfl,rfl⟩:=hg;simp only [T.wp,Fin.fin.injEq,SV.c.injEq,Cell.bool.injEq,and_true];simp
  ·exact hg.elim
 ·exact hg.elim
def wP:aQ cod:=(119,.p yX)::mO
def E5:aT cod:=c9 wP
theorem uv:cv Tryz.prog cod wP:=.cons DG eQ
def KZ:aH cod:=fun args H=>match H with
 | []=>match rd args with
   | some [[a],[b]]=>(.ret (.c (.int .i64 (F.eA a b)),[]))
   | _=>.fail
 | _=>.fail
theorem OO (a b:Int):aI E5 [] Tryz.f83.results.toList ([]:Heap cod).length 400 [.code (aj Tryz.f83)] ⟨ay Tryz.f83 [.c (.int .i64 a),.c (.int .i64 b)],[]⟩=
 cond (decide (a < b)) (
 .ret (.fin (.c (.int .i64 (-1))) [])) (
 cond (decide (b < a)) (
  .ret (.fin (.c (.int .i64 1)) [])) (
  .ret (.fin (.c (.int .i64 0)) []))):=by kernel_rfl
theorem Ju:Sound Tryz.prog cod 83 KZ:=aW (cfg:=E5) uv mixed Tryz.func83 rfl rfl _ 400 fun args H r news hg=>by
 unfold KZ at hg;split at hg
 ·split at hg
  ·rename_i a b dn;have aJ:=b8 dn;simp only [List.map,oS] at aJ;subst aJ;clear dn;rw [OO];simp only [T.ah,T.wp,Prod.mk.injEq] at hg;obtain ⟨rfl,rfl⟩:=hg;simp only [T.wp,T.wp_cond,Fin.fin.injEq,SV.c.injEq,Cell.int.injEq,and_true,true_and,decide_eq_true_eq];unfold F.eA;by_cases h1:a < b<;>by_cases h2:b < a<;>simp [h1,h2]
  ·exact hg.elim
 ·exact hg.elim
def IH:aQ cod:=(83,.p KZ)::wP
def sw:aT cod:=c9 IH
theorem kD:cv Tryz.prog cod IH:=.cons Ju uv
def ni:bA:=[(3,[3,6,7,8],1)]
theorem adl (l:List Int) (aA:Bool):aI sw ni Tryz.f82.results.toList 1 400 [.code (aj Tryz.f82)] ⟨ay Tryz.f82 [.c (.ai 0 0 l.length aA)],([.aB 0 l]:Heap cod)⟩=
.ret (.cut (cutAt Tryz.f82 3) ⟨bc 9 [(3,.c (.int .i64 0)),(2,.c (.ai 0 0 l.length aA)),(0,.c (.int .i64 (Int.ofNat l.length))),(0,.c (.int .i64 0))],[.aB 0 l]⟩):=by kernel_rfl
def HT (l:List Int) (aA:Bool) (k:Int):St cod:=⟨bc 9 [(3,.c (.int .i64 0)),(2,.c (.ai 0 0 l.length aA)),(0,.c (.int .i64 (Int.ofNat l.length))),(0,.c (.int .i64 k))],[.aB 0 l]⟩
theorem VJ (l:List Int) (aA:Bool) (k:Int):aI sw ni Tryz.f82.results.toList 1 400 (cutAt Tryz.f82 3) (HT l aA k)=
 (let q0:=List.length l;
 cond (decide (k < Int.ofNat q0)) (.aa (((0:Int)≤k∧k < Int.ofNat q0)) (.aa (0+Int.toNat k < List.length l) (cond (!decide (List.getD l (0+Int.toNat k) (cod 0).d=0)) (.ret (.fin (.c (.int .i64 (List.getD l (0+Int.toNat k) (cod 0).d))) [])) (.aa (ae (k+1)) (.ret (.cut (cutAt Tryz.f82 3) ⟨bc 9 [(3,.c (.int .i64 0)),(2,.c (.ai 0 0 q0 aA)),(0,.c (.int .i64 (Int.ofNat q0))),(0,.c (.int .i64 (k+1)))],[.aB 0 l]⟩)))))) (.ret (.fin (.c (.int .i64 0)) []))):=by kernel_rfl
theorem VI (l:List Int) (aA:Bool) (h0:l.length≤1000) (b0:aC) (hb:b0.n=1) (R:SV):∀(m j:Nat),j+m=l.length→R= .c (.int .i64 (F.Ii (l.drop j)))→
 Sym.af Tryz.prog b0 (cutAt Tryz.f82 3) (HT l aA (j:Int)) (Sym.Ends Tryz.prog Tryz.f82 1 R []):=by
 intro m
 induction m with
 | zero=>
   intro j hm hR;refine af.go (cfg:=sw) kD mixed ni 400 hb (VJ l aA (j:Int)) ?_;have k1:¬(j:Int) < (l.length:Int):=by omega
   rw [List.drop_of_length_le (by omega)] at hR;simp only [T.wp,T.wp_cond,bF,Int.ofNat_eq_natCast,decide_eq_true_eq,and_true,Nat.zero_add,Bool.not_eq_true',decide_eq_false_iff_not,k1,if_false,hR]
   rfl
 | succ m ih=>
   intro j hm hR;have k1:(j:Int) < (l.length:Int):=by omega
   have k2:j < l.length:=by omega
   have k3:ae ((j:Int)+1):=by unfold ae;omega
   have k0:(0:Int)≤(j:Int):=by omega
   have hd:(cod 0).d=(0:Int):=rfl;have nx:=ih (j+1) (by omega);have e1:l.drop j=l.getD j 0::l.drop (j+1):=by rw [List.drop_eq_getElem_cons k2];simp [List.getD,k2]
   rw [e1,F.Ii] at hR;refine af.go (cfg:=sw) kD mixed ni 400 hb (VJ l aA (j:Int)) ?_;simp only [T.wp,T.wp_cond,bF,Int.ofNat_eq_natCast,decide_eq_true_eq,and_true,true_and,Nat.zero_add,Bool.not_eq_true',decide_eq_false_iff_not,Int.toNat_natCast,k0,k1,k2,k3,hd,if_true];by_cases hz:l.getD j 0=0
   ·rw [if_pos hz] at hR;rw [if_neg (fun h=>h hz)];exact nx hR
   ·rw [if_neg hz] at hR;rw [if_pos hz,hR]
theorem ZF (l:List Int) (aA:Bool) (b0:aC) (hb:b0.n=1) (h0:List.length l≤1000):Sym.af Tryz.prog b0 [.code (aj Tryz.f82)] ⟨ay Tryz.f82 [.c (.ai 0 0 l.length aA)],([.aB 0 l]:Heap cod)⟩ (Sym.Ends Tryz.prog Tryz.f82 1 (.c (.int .i64 (F.Ii l))) []):=by
 refine af.go (cfg:=sw) kD mixed ni 400 hb (adl l aA) ?_;simp only [T.wp,bF,Int.ofNat_eq_natCast];exact VI l aA h0 b0 hb _ l.length 0 (by omega) rfl
def Wu:aH cod:=fun args H=>match args,H with
 | [.c (.ai 0 cF cA _)],[o0]=>(match o0.cV 0 with | some l=>.aa ((cF=0∧cA=List.length l)∧(List.length l≤1000)) (.ret (.c (.int .i64 (F.Ii l)),[])) | none=>.fail)
 | _,_=>.fail
theorem Qn:Sound Tryz.prog cod 82 Wu:=ax (cfg:=sw) kD mixed Tryz.func82 rfl rfl _ fun args H r news hg b0 hb=>by
 unfold Wu at hg;split at hg
 ·skip
  split at hg
  ·rename_i l gG;cases aR gG;simp only [T.ah,T.wp,Prod.mk.injEq] at hg;obtain ⟨⟨⟨rfl,rfl⟩,q1⟩,rfl,rfl⟩:=hg;exact ZF _ _ b0 hb (by assumption)
  ·exact hg.elim
 ·exact hg.elim
def Su:aQ cod:=(82,.p Wu)::IH
def RS:aT cod:=c9 Su
theorem wV:cv Tryz.prog cod Su:=.cons Qn kD
def A9:bA:=[]
theorem Yd (a1 a2 a3 a4 a5 a6:Int) (b1 b2 b3 b4 b5 b6:Int):aI RS A9 Tryz.f49.results.toList 0 400 [.code (aj Tryz.f49)] ⟨ay Tryz.f49 [.agg [.int .i64 a1,.int .i64 a2,.int .i64 a3,.int .i64 a4,.int .i64 a5,.int .i64 a6],.agg [.int .i64 b1,.int .i64 b2,.int .i64 b3,.int .i64 b4,.int .i64 b5,.int .i64 b6]],([]:Heap cod)⟩=
.aa (((0=0∧6=6)∧(6:Nat)≤1000)) (
.ret (.fin (.c (.int .i64 (F.Ii [F.eA a1 b1,F.eA a6 b6,F.eA a2 b2,F.eA a3 b3,F.eA a4 b4,F.eA a5 b5]))) [])):=by kernel_rfl
theorem Tj (a1 a2 a3 a4 a5 a6:Int) (b1 b2 b3 b4 b5 b6:Int) (b0:aC) (hb:b0.n=0):Sym.af Tryz.prog b0 [.code (aj Tryz.f49)] ⟨ay Tryz.f49 [.agg [.int .i64 a1,.int .i64 a2,.int .i64 a3,.int .i64 a4,.int .i64 a5,.int .i64 a6],.agg [.int .i64 b1,.int .i64 b2,.int .i64 b3,.int .i64 b4,.int .i64 b5,.int .i64 b6]],([]:Heap cod)⟩ (Sym.Ends Tryz.prog Tryz.f49 0 (.c (.int .i64 (F.tl (a1,a2,a3,a4,a5,a6) (b1,b2,b3,b4,b5,b6)))) []):=by
 refine af.go (cfg:=RS) wV mixed A9 400 hb (Yd a1 a2 a3 a4 a5 a6 b1 b2 b3 b4 b5 b6) ?_;simp only [T.wp,bF,and_true,true_and];exact ⟨by decide,rfl⟩
def K1:aH cod:=fun args H=>match args,H with
 | [.agg [.int .i64 a1,.int .i64 a2,.int .i64 a3,.int .i64 a4,.int .i64 a5,.int .i64 a6],.agg [.int .i64 b1,.int .i64 b2,.int .i64 b3,.int .i64 b4,.int .i64 b5,.int .i64 b6]],[]=>.ret (.c (.int .i64 (F.tl (a1,a2,a3,a4,a5,a6) (b1,b2,b3,b4,b5,b6))),[])
 | _,_=>.fail
theorem pV:Sound Tryz.prog cod 49 K1:=ax (cfg:=RS) wV mixed Tryz.func49 rfl rfl _ fun args H r news hg b0 hb=>by
 unfold K1 at hg;split at hg
 ·skip
  cases hg;exact Tj _ _ _ _ _ _ _ _ _ _ _ _ b0 hb
 ·exact hg.elim
def Cy:aQ cod:=(49,.p K1)::Su
def sC:aT cod:=c9 Cy
theorem jc:cv Tryz.prog cod Cy:=.cons pV wV
end
end
namespace Sym
open Go.RowKit Go.Sort
section
variable {cod:Nat→aO} {P:Program}
def tA:List SV→Option (List FuncId)
 | []=>some []
 | .c (.fn g [])::l=>(tA l).map (g::·)
 | _=>none
def kr (ex:List FuncId):List Value:=ex.map fun g=>.func (.func g) #[] #[]
theorem gX {env:Env} {N:Nat}:∀{SP:List SV} {vs:List Value} {ex:List FuncId},tA SP=some ex→F2 (aS env N) SP vs→vs=kr ex
 | [],_,_,h,hv=>by
   cases hv;cases h
   rfl
 | a::SP,_,ex,h,hv=>by
   cases hv with
   | @cons _ v _ vs hx iP=>
     unfold tA at h;split at h
     ·rename_i e;cases e
     ·rename_i g l e;simp only [List.cons.injEq] at e;obtain ⟨rfl,rfl⟩:=e;obtain ⟨ex',h1,rfl⟩:=Option.map_eq_some_iff.1 h;have h2:=gX h1 iP;obtain ⟨_,h3⟩:=hx;rw [h2,h3];rfl
     ·cases h
noncomputable def qf (u:Nat) (ex:List FuncId) (f:List (cod u).α→List (cod u).α):aH cod:=fun args H=>match args,H with
 | .c (.own 0 _)::SP,[.own v l ty]=>if h:v=u then (if tA SP=some ex then .aa (l.length≤1000000) (.ret (.aP [],[.own u (f (h▸l)) ty])) else .fail) else .fail
 | .c (.ai 0 0 n _)::SP,[.arr v l ty]=>if h:v=u then (if tA SP=some ex then .aa (n=l.length∧l.length≤1000000) (.ret (.aP [],[.arr u (f (h▸l)) ty])) else .fail) else .fail
 | _,_=>.fail
def iM (w:World) (b:Nat) (vs:List Value):Prop:=∃eW e,w.heap[b]? =some (.cells eW e (0,0))∧eW.toList.take vs.length=vs
theorem iM.holds {β:Type} [Inhabited β] {e':β→Value} {w:World} {b:Nat} {D:Array β} (h:iM w b (D.toList.map e')):Holds e' w b 0 D:=by
 obtain ⟨eW,e,hb,ht⟩:=h;rw [List.length_map,Array.length_toList] at ht;intro j hj;refine ⟨?_,by simp [World.frozen?,hb]⟩;have h1:(eW.toList.take D.size)[j]? =(D.toList.map e')[j]? :=by rw [ht]
 rw [List.getElem?_take_of_lt hj] at h1;simp only [World.cell?,hb,Nat.zero_add];simp only [Option.isSome_none,Bool.false_eq_true,if_false];rw [←Array.getElem?_toList,h1];simp [hj]
theorem iM.lt {w:World} {b:Nat} {vs:List Value} (h:iM w b vs):b < w.heap.size:=by
 obtain ⟨eW,e,hb,_⟩:=h;exact (Array.getElem?_eq_some_iff.1 hb).1
theorem rn {β:Type} [Inhabited β] (e':β→Value) {w:World} {g n:Nat} {os:Array Obj} {eW:Array Value} {e:TypeId} {fr:Nat×Nat} (d:Array β) (hb:w.heap[g]? =some (.cells eW e fr)):
 (grow (putRow e' (Sort.ahead w n) g 0 d) os).heap[g]? =some (.cells (putCells e' 0 d eW) e fr):=by
 have hg:g < w.heap.size:=(Array.getElem?_eq_some_iff.1 hb).1;rw [heap_grow_old _ _ (by simpa using hg)];simp [putRow,mapBlock,Sort.ahead,Array.getElem?_modify,hb,onCells]
theorem rY {β:Type} [Inhabited β] (e':β→Value) (eW:Array Value) (d:Array β) (h:d.size≤eW.size):(putCells e' 0 d eW).toList.take d.size=d.toList.map e':=by
 apply List.ext_getElem?;intro j;by_cases hj:j < d.size
 ·rw [List.getElem?_take_of_lt hj,Array.getElem?_toList];simp [putCells,hj,show j < eW.size by omega]
 ·rw [List.getElem?_take_eq_none (by omega),List.getElem?_eq_none (by simp;omega)]
theorem oq {β:Type} [Inhabited β] (e':β→Value) {w:World} {g n:Nat} {os:Array Obj} (d:Array β) {M:Nat→Prop} (hM:M g):gR M w (grow (putRow e' (Sort.ahead w n) g 0 d) os):=by
 refine ⟨rfl,rfl,rfl,by simp,fun k hk bP=>?_,re (Nat.le_add_right _ _)⟩;rw [heap_grow_old _ _ (by simpa using hk)];have:g≠k:=fun e=>bP (by rw [←e];exact hM);simp [putRow,mapBlock,Sort.ahead,Array.getElem?_modify,this]
theorem tx {f:FuncId} {fn:Func} (hf:P.funcs[f]? =some fn) (hb:fn.body.isSome=true) (jJ:(fn.name== "runtime.NumGoroutine")=false) (args:Array Value) (w:World):(callFunc f args).run P w= .ok (.enter f args) w:=by
 obtain ⟨code,yh⟩:=Option.isSome_iff_exists.1 hb;simp [callFunc,hf,yh];simpa using jJ
structure aaH (P:Program) (cod:Nat→aO) (g:FuncId) (u:Nat) (ex:List FuncId) (f:List (cod u).α→List (cod u).α) (β:Type) [Inhabited β] (e':β→Value):Prop where
 enters:∀args w,(callFunc g args).run P w= .ok (.enter g args) w
 len:∀l,(f l).length=l.length
 none:∀p cap w,Calls P g (Value.slice p 0 cap::kr ex).toArray w fun e w'=>e= .returned (.tuple #[])∧w'=w
 some:∀(b cap:Nat) (l:List (cod u).α) (w:World),l≠[]→l.length≤1000000→iM w b (aN (cod u) l)→
  Calls P g (Value.slice (.some ⟨b,0,Option.none⟩) l.length cap::kr ex).toArray w fun e w'=>e= .returned (.tuple #[])∧∃(n:Nat) (os:Array Obj) (D:Array β),D.toList.map e'=aN (cod u) (f l)∧w'=grow (putRow e' (Sort.ahead w n) b 0 D) os
theorem KC {g:FuncId} {u:Nat} {ex:List FuncId} {f:List (cod u).α→List (cod u).α} {β:Type} [Inhabited β] {e':β→Value} (h:aaH P cod g u ex f β e'):dz P cod g true (qf u ex f):=by
 refine ⟨h.enters,fun args H env w vs r H' G ha hg=>?_⟩;have rE:aS env 1 (.aP []) (.tuple #[]):=⟨#[],rfl,.nil⟩
 have one:∀{o:av cod} {i:Nat} {o':av cod},[o][i]? =some o'→i=0∧o'=o:=by
  intro o i o' hi
  cases i with
  | zero=>simp at hi;exact ⟨rfl,hi.symm⟩
  | succ i=>simp at hi
 unfold qf at hg;split at hg
 ·rename_i n SP v l ty;split at hg
  ·rename_i hv;subst hv;split at hg
   ·rename_i hex;rw [T.ak,T.ad] at hg;obtain ⟨kt,hg⟩:=hg;simp only [Prod.mk.injEq] at hg;obtain ⟨rfl,rfl⟩:=hg
    cases ha with
    | @cons _ v0 _ vs hx iP=>
      have ym:=gX hex iP;subst ym;obtain ⟨_,e9,A,c,hA,_⟩:=hx;obtain ⟨o1,o2,o3,o4,o5⟩:=G.obj 0 (.own v l ty) (by simp)
      have hlen:n=l.length:=by
       rw [←e9,hA] at o3;rcases o3.2 with ⟨e,hz⟩ | ⟨g,cap,eW,e,_⟩
       ·simp only [Value.slice.injEq] at e;omega
       ·simp only [Value.slice.injEq] at e;omega
      subst hlen;by_cases hl:l=[]
      ·subst hl;have hf:f []=[]:=List.eq_nil_of_length_eq_zero (h.len []);rw [hA];refine (h.none A c w).mono ?_;rintro e w' ⟨rfl,rfl⟩;refine ⟨_,env,rfl,fun _ _ _=>rfl,rE,fun i o ho _=>?_,fun i j o o' b bP ho jS=>?_,gR.refl _ _⟩
       ·obtain ⟨rfl,rfl⟩:=one ho;show bH env _ _ _ _ (.own v (f []) ty);rw [hf];exact G.obj 0 _ (by simp)
       ·exact absurd ((one ho).1.trans (one jS).1.symm) bP
      ·rcases o3.2 with ⟨e,hz⟩ | ⟨b,cap,eW,e,Ps,hb,vB,mA,pX,sq⟩
       ·exact absurd (List.eq_nil_of_length_eq_zero hz) hl
       ·have fG:iM w b (aN (cod v) l):=⟨eW,ty,hb,by rw [bB];exact sq⟩;have hM:dG [av.own v l ty] env w b:=.inr ⟨0,_,rfl,rfl,by simp [av.has,e,Value.ownBlock]⟩;rw [e9,e];refine (h.some b cap l w hl kt fG).mono ?_;rintro _ w' ⟨rfl,k,os,D,hD,rfl⟩
        have Uc:D.size=l.length*(cod v).size:=by
         have:=congrArg List.length hD;rw [List.length_map,Array.length_toList,bB,h.len] at this;exact this
        have hle:D.size≤eW.size:=by
         rw [Uc,pX];exact Nat.mul_le_mul_right _ vB
        refine ⟨_,env,rfl,fun _ _ _=>rfl,rE,fun i o ho _=>?_,fun i j o o' b bP ho jS=>?_,oq e' D hM⟩
        ·obtain ⟨rfl,rfl⟩:=one ho;refine ⟨o1,o2,⟨by rw [bB],.inr ⟨b,cap,_,by rw [h.len];exact e,Ps,rn e' D hb,by rw [h.len];exact vB,mA,by simp [putCells,pX],?_⟩⟩,fun q hq=>.inr ⟨0,_,rfl,rfl,hq⟩,o5⟩;rw [h.len,←Uc,←hD];exact rY e' eW D hle
        ·exact absurd ((one ho).1.trans (one jS).1.symm) bP
   ·exact hg.elim
  ·exact hg.elim
 ·rename_i n t SP v l ty;split at hg
  ·rename_i hv;subst hv;split at hg
   ·rename_i hex;rw [T.ak,T.ad] at hg;obtain ⟨⟨rfl,kt⟩,hg⟩:=hg;simp only [Prod.mk.injEq] at hg;obtain ⟨rfl,rfl⟩:=hg
    cases ha with
    | @cons _ v0 _ vs hx iP=>
      have ym:=gX hex iP;subst ym;obtain ⟨_,A,c,rfl,vA,kU,_,hA⟩:=hx;obtain ⟨o1,o2,o3,o4⟩:=G.obj 0 (.arr v l ty) (by simp);by_cases hl:l=[]
      ·subst hl;have hf:f []=[]:=List.eq_nil_of_length_eq_zero (h.len []);refine (h.none A c w).mono ?_;rintro e w' ⟨rfl,rfl⟩;refine ⟨_,env,rfl,fun _ _ _=>rfl,rE,fun i o ho _=>?_,fun i j o o' b bP ho jS=>?_,gR.refl _ _⟩
       ·obtain ⟨rfl,rfl⟩:=one ho;show bH env _ _ _ _ (.arr v (f []) ty);rw [hf];exact G.obj 0 _ (by simp)
       ·exact absurd ((one ho).1.trans (one jS).1.symm) bP
      ·have hp:0 < l.length:=List.length_pos_iff.2 hl;have e:=hA hp;have lR:(env 0).addr 0 0=⟨(env 0).block,0,none⟩:=by simp [HV.addr,o1]
       rw [lR] at e;subst e;have fG:iM w (env 0).block (aN (cod v) l):=⟨_,ty,o4,by simp⟩;have hM:dG [av.arr v l ty] env w (env 0).block:=.inr ⟨0,_,rfl,rfl,rfl⟩;refine (h.some (env 0).block c l w hl kt fG).mono ?_;rintro _ w' ⟨rfl,k,os,D,hD,rfl⟩
       have Uc:D.size=l.length*(cod v).size:=by
        have:=congrArg List.length hD;rw [List.length_map,Array.length_toList,bB,h.len] at this;exact this
       refine ⟨_,env,rfl,fun _ _ _=>rfl,rE,fun i o ho _=>?_,fun i j o o' b bP ho jS=>?_,oq e' D hM⟩
       ·obtain ⟨rfl,rfl⟩:=one ho;refine ⟨o1,o2,hM,?_⟩;rw [rn e' D o4];congr 2;apply Array.ext';have h1:=rY e' (aN (cod v) l).toArray D (by rw [Uc];simp [bB]);rw [hD] at h1;rw [←h1,List.take_of_length_le];rw [Array.length_toList];simp [putCells,Uc,bB]
       ·exact absurd ((one ho).1.trans (one jS).1.symm) bP
   ·exact hg.elim
  ·exact hg.elim
 ·exact hg.elim
structure I8 (P:Program) (cod:Nat→aO) (g:FuncId) (u:Nat) (ex:List FuncId) (f:List (cod u).α→List (cod u).α) (β:Type) [Inhabited β] (e':β→Value):Prop where
 enters:∀args w,(callFunc g args).run P w= .ok (.enter g args) w
 len:∀l,(f l).length=l.length
 none:∀p cap w,Calls P g (Value.slice p 0 cap::kr ex).toArray w fun e w'=>e= .returned (.tuple #[])∧w'=w
 some:∀(b cap:Nat) (l:List (cod u).α) (w:World) (M:Nat→Prop),l≠[]→l.length≤1000000→iM w b (aN (cod u) l)→pN w M→M b→
  Calls P g (Value.slice (.some ⟨b,0,Option.none⟩) l.length cap::kr ex).toArray w fun e w'=>e= .returned (.tuple #[])∧∃(n:Nat) (os:Array Obj) (D:Array β),D.toList.map e'=aN (cod u) (f l)∧w'=grow (putRow e' (Sort.ahead w n) b 0 D) os
theorem Nv {w w':World} {M:Nat→Prop} (h:pN w M) (k:gR M w w'):pN w' (gT w'):=by
 refine h.bG (fun p _ cI hM=>?_) (fun p _ cI hM=>?_)
 ·exact k.block _ cI hM
 ·show ¬w'.heap.size≤p.1;have:=k.size;omega
theorem u6 {g:FuncId} {u:Nat} {ex:List FuncId} {f:List (cod u).α→List (cod u).α} {β:Type} [Inhabited β] {e':β→Value} (h:I8 P cod g u ex f β e'):dz P cod g true (qf u ex f):=by
 refine ⟨h.enters,fun args H env w vs r H' G ha hg=>?_⟩;have rE:aS env 1 (.aP []) (.tuple #[]):=⟨#[],rfl,.nil⟩
 have one:∀{o:av cod} {i:Nat} {o':av cod},[o][i]? =some o'→i=0∧o'=o:=by
  intro o i o' hi
  cases i with
  | zero=>simp at hi;exact ⟨rfl,hi.symm⟩
  | succ i=>simp at hi
 unfold qf at hg;split at hg
 ·rename_i n SP v l ty;split at hg
  ·rename_i hv;subst hv;split at hg
   ·rename_i hex;rw [T.ak,T.ad] at hg;obtain ⟨kt,hg⟩:=hg;simp only [Prod.mk.injEq] at hg;obtain ⟨rfl,rfl⟩:=hg
    cases ha with
    | @cons _ v0 _ vs hx iP=>
      have ym:=gX hex iP;subst ym;obtain ⟨_,e9,A,c,hA,_⟩:=hx;obtain ⟨o1,o2,o3,o4,o5⟩:=G.obj 0 (.own v l ty) (by simp)
      have hlen:n=l.length:=by
       rw [←e9,hA] at o3;rcases o3.2 with ⟨e,hz⟩ | ⟨g,cap,eW,e,_⟩
       ·simp only [Value.slice.injEq] at e;omega
       ·simp only [Value.slice.injEq] at e;omega
      subst hlen;by_cases hl:l=[]
      ·subst hl;have hf:f []=[]:=List.eq_nil_of_length_eq_zero (h.len []);rw [hA];refine (h.none A c w).mono ?_;rintro e w' ⟨rfl,rfl⟩;refine ⟨_,env,rfl,fun _ _ _=>rfl,rE,fun i o ho _=>?_,fun i j o o' b bP ho jS=>?_,gR.refl _ _⟩
       ·obtain ⟨rfl,rfl⟩:=one ho;show bH env _ _ _ _ (.own v (f []) ty);rw [hf];exact G.obj 0 _ (by simp)
       ·exact absurd ((one ho).1.trans (one jS).1.symm) bP
      ·rcases o3.2 with ⟨e,hz⟩ | ⟨b,cap,eW,e,Ps,hb,vB,mA,pX,sq⟩
       ·exact absurd (List.eq_nil_of_length_eq_zero hz) hl
       ·have fG:iM w b (aN (cod v) l):=⟨eW,ty,hb,by rw [bB];exact sq⟩;have hM:dG [av.own v l ty] env w b:=.inr ⟨0,_,rfl,rfl,by simp [av.has,e,Value.ownBlock]⟩;rw [e9,e];refine (h.some b cap l w _ hl kt fG G.sr hM).mono ?_;rintro _ w' ⟨rfl,k,os,D,hD,rfl⟩
        have Uc:D.size=l.length*(cod v).size:=by
         have:=congrArg List.length hD;rw [List.length_map,Array.length_toList,bB,h.len] at this;exact this
        have hle:D.size≤eW.size:=by
         rw [Uc,pX];exact Nat.mul_le_mul_right _ vB
        refine ⟨_,env,rfl,fun _ _ _=>rfl,rE,fun i o ho _=>?_,fun i j o o' b bP ho jS=>?_,oq e' D hM⟩
        ·obtain ⟨rfl,rfl⟩:=one ho;refine ⟨o1,o2,⟨by rw [bB],.inr ⟨b,cap,_,by rw [h.len];exact e,Ps,rn e' D hb,by rw [h.len];exact vB,mA,by simp [putCells,pX],?_⟩⟩,fun q hq=>.inr ⟨0,_,rfl,rfl,hq⟩,o5⟩;rw [h.len,←Uc,←hD];exact rY e' eW D hle
        ·exact absurd ((one ho).1.trans (one jS).1.symm) bP
   ·exact hg.elim
  ·exact hg.elim
 ·rename_i n t SP v l ty;split at hg
  ·rename_i hv;subst hv;split at hg
   ·rename_i hex;rw [T.ak,T.ad] at hg;obtain ⟨⟨rfl,kt⟩,hg⟩:=hg;simp only [Prod.mk.injEq] at hg;obtain ⟨rfl,rfl⟩:=hg
    cases ha with
    | @cons _ v0 _ vs hx iP=>
      have ym:=gX hex iP;subst ym;obtain ⟨_,A,c,rfl,vA,kU,_,hA⟩:=hx;obtain ⟨o1,o2,o3,o4⟩:=G.obj 0 (.arr v l ty) (by simp);by_cases hl:l=[]
      ·subst hl;have hf:f []=[]:=List.eq_nil_of_length_eq_zero (h.len []);refine (h.none A c w).mono ?_;rintro e w' ⟨rfl,rfl⟩;refine ⟨_,env,rfl,fun _ _ _=>rfl,rE,fun i o ho _=>?_,fun i j o o' b bP ho jS=>?_,gR.refl _ _⟩
       ·obtain ⟨rfl,rfl⟩:=one ho;show bH env _ _ _ _ (.arr v (f []) ty);rw [hf];exact G.obj 0 _ (by simp)
       ·exact absurd ((one ho).1.trans (one jS).1.symm) bP
      ·have hp:0 < l.length:=List.length_pos_iff.2 hl;have e:=hA hp;have lR:(env 0).addr 0 0=⟨(env 0).block,0,none⟩:=by simp [HV.addr,o1]
       rw [lR] at e;subst e;have fG:iM w (env 0).block (aN (cod v) l):=⟨_,ty,o4,by simp⟩;have hM:dG [av.arr v l ty] env w (env 0).block:=.inr ⟨0,_,rfl,rfl,rfl⟩;refine (h.some (env 0).block c l w _ hl kt fG G.sr hM).mono ?_;rintro _ w' ⟨rfl,k,os,D,hD,rfl⟩
       have Uc:D.size=l.length*(cod v).size:=by
        have:=congrArg List.length hD;rw [List.length_map,Array.length_toList,bB,h.len] at this;exact this
       refine ⟨_,env,rfl,fun _ _ _=>rfl,rE,fun i o ho _=>?_,fun i j o o' b bP ho jS=>?_,oq e' D hM⟩
       ·obtain ⟨rfl,rfl⟩:=one ho;refine ⟨o1,o2,hM,?_⟩;rw [rn e' D o4];congr 2;apply Array.ext';have h1:=rY e' (aN (cod v) l).toArray D (by rw [Uc];simp [bB]);rw [hD] at h1;rw [←h1,List.take_of_length_le];rw [Array.length_toList];simp [putCells,Uc,bB]
       ·exact absurd ((one ho).1.trans (one jS).1.symm) bP
   ·exact hg.elim
  ·exact hg.elim
 ·exact hg.elim
end
end Sym
end Go.Proofs.YtcjagpfbhnmggaaGreatDoor
