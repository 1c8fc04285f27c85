/- Parts of the proof. -/
import Derived.Test.YtcjagpfbhnmggaaGreatDoorBd18
namespace Go.Proofs.YtcjagpfbhnmggaaGreatDoor
section
open Sym Go.RowKit
noncomputable section
set_option maxRecDepth 100000
set_option maxHeartbeats 4000000
namespace F
def cx (h:Int):Int:=cp (norm h+1024)
def nr (n:Int):Int:=if n < 0 then -((-n+8192).tdiv 16384) else (n+8192).tdiv 16384
def vX (h l:Int):Int:=nr (l*cp h)
def vY (h l:Int):Int:=nr (l*cx h)
end F
theorem oa (h:Int): -16384≤F.cx h∧F.cx h≤16384:=l7 _
theorem si {l s:Int} (h:0≤l∧l≤2000000) (k: -16384≤s∧s≤16384): -32768000000≤l*s∧l*s≤32768000000:=by
 have a1:=Int.mul_le_mul_of_nonneg_left k.2 h.1;have a2:=Int.mul_le_mul_of_nonneg_left k.1 h.1;generalize l*s=x at a1 a2;constructor<;>omega
def A3:bA:=[]
theorem XP (h:Int):aI Io A3 Tryz.f108.results.toList 0 400 [.code (aj Tryz.f108)] ⟨ay Tryz.f108 [.c (.int .i64 h)],([]:Heap cod)⟩=
.aa (ae (F.norm h+1024)) (
.ret (.fin (.c (.int .i64 (F.cp (F.norm h+1024)))) [])):=by kernel_rfl
theorem SN (h:Int) (b0:aC) (hb:b0.n=0):Sym.af Tryz.prog b0 [.code (aj Tryz.f108)] ⟨ay Tryz.f108 [.c (.int .i64 h)],([]:Heap cod)⟩ (Sym.Ends Tryz.prog Tryz.f108 0 (.c (.int .i64 (F.cx h))) []):=by
 refine af.go (cfg:=Io) sN mixed A3 400 hb (XP h) ?_;have n:=iS h;simp only [T.wp,bF,and_true];exact ⟨by unfold Sym.ae;omega,rfl⟩
def KS:aH cod:=fun args H=>match args,H with
 | [.c (.int .i64 h)],[]=>.ret (.c (.int .i64 (F.cx h)),[])
 | _,_=>.fail
theorem I9:Sound Tryz.prog cod 108 KS:=ax (cfg:=Io) sN mixed Tryz.func108 rfl rfl _ fun args H r news hg b0 hb=>by
 unfold KS at hg;split at hg
 ·skip
  cases hg;exact SN _ b0 hb
 ·exact hg.elim
def IA:aQ cod:=(108,.p KS)::IB
def Im:aT cod:=c9 IA
theorem sM:cv Tryz.prog cod IA:=.cons I9 sN
def xH:bA:=[]
theorem Vp (n:Int):aI Im xH Tryz.f121.results.toList 0 400 [.code (aj Tryz.f121)] ⟨ay Tryz.f121 [.c (.int .i64 n),.c (.int .i64 16384)],([]:Heap cod)⟩=
 (let q0:=Int.tdiv (n+Int.tdiv 16384 2) 16384;
 cond (decide (n < 0)) (.aa (ae (-n)) (.fail)) (.aa ((2:Int)≠0) (.aa (ae (Int.tdiv 16384 2)) (.aa (ae (n+Int.tdiv 16384 2)) (.aa ((16384:Int)≠0) (.aa (ae q0) (.ret (.fin (.c (.int .i64 q0)) [])))))))):=by kernel_rfl
theorem P9 (n:Int) (b0:aC) (hb:b0.n=0) (h0:0≤n∧n≤100000000000000):Sym.af Tryz.prog b0 [.code (aj Tryz.f121)] ⟨ay Tryz.f121 [.c (.int .i64 n),.c (.int .i64 16384)],([]:Heap cod)⟩ (Sym.Ends Tryz.prog Tryz.f121 0 (.c (.int .i64 (F.nr n))) []):=by
 refine af.go (cfg:=Im) sM mixed xH 400 hb (Vp n) ?_
 have e:F.nr n=(n+8192).tdiv 16384:=by
  unfold F.nr;rw [if_neg (by omega)]
 rw [e];have t:(16384:Int).tdiv 2=8192:=by decide
 have t1:¬n < 0:=by omega
 have b1:0≤(n+8192).tdiv 16384:=Int.tdiv_nonneg (by omega) (by decide);have b2:(n+8192).tdiv 16384≤n+8192:=Int.tdiv_le_self _ (by omega);simp only [T.wp,T.wp_cond,bF,decide_eq_true_eq,and_true,t];exact ap t1 ⟨by decide,by unfold Sym.ae;omega,by unfold Sym.ae;omega,by decide,by unfold Sym.ae;omega⟩
def Ev:aH cod:=fun args H=>match args,H with
 | [.c (.int .i64 n),.c (.int .i64 16384)],[]=>.aa ((0≤n∧n≤100000000000000)) (.ret (.c (.int .i64 (F.nr n)),[]))
 | _,_=>.fail
theorem GW:Sound Tryz.prog cod 121 Ev:=ax (cfg:=Im) sM mixed Tryz.func121 rfl rfl _ fun args H r news hg b0 hb=>by
 unfold Ev at hg;split at hg
 ·skip
  simp only [T.ah,T.wp,Prod.mk.injEq] at hg;obtain ⟨q0,rfl,rfl⟩:=hg;exact P9 _ b0 hb (by assumption)
 ·exact hg.elim
def CJ:aQ cod:=(121,.p Ev)::IA
def Cp:aT cod:=c9 CJ
theorem pF:cv Tryz.prog cod CJ:=.cons GW sM
def xI:bA:=[]
theorem Vq (n:Int):aI Cp xI Tryz.f121.results.toList 0 400 [.code (aj Tryz.f121)] ⟨ay Tryz.f121 [.c (.int .i64 n),.c (.int .i64 16384)],([]:Heap cod)⟩=
 (let q0:=Int.tdiv (n+Int.tdiv 16384 2) 16384;
 cond (decide (n < 0)) (.aa (ae (-n)) (.aa (((0:Int)≤-n∧-n≤100000000000000)) (.aa (ae (-F.nr (-n))) (.ret (.fin (.c (.int .i64 (-F.nr (-n)))) []))))) (.aa ((2:Int)≠0) (.aa (ae (Int.tdiv 16384 2)) (.aa (ae (n+Int.tdiv 16384 2)) (.aa ((16384:Int)≠0) (.aa (ae q0) (.ret (.fin (.c (.int .i64 q0)) [])))))))):=by kernel_rfl
theorem Qa (n:Int) (b0:aC) (hb:b0.n=0) (h0: -100000000000000≤n∧n≤100000000000000):Sym.af Tryz.prog b0 [.code (aj Tryz.f121)] ⟨ay Tryz.f121 [.c (.int .i64 n),.c (.int .i64 16384)],([]:Heap cod)⟩ (Sym.Ends Tryz.prog Tryz.f121 0 (.c (.int .i64 (F.nr n))) []):=by
 refine af.go (cfg:=Cp) pF mixed xI 400 hb (Vq n) ?_;have t:(16384:Int).tdiv 2=8192:=by decide
 by_cases hn:n < 0
 ·have e:F.nr (-n)=(-n+8192).tdiv 16384:=by
   unfold F.nr;rw [if_neg (by omega)]
  have e2:F.nr n= -F.nr (-n):=by
   rw [e];unfold F.nr;rw [if_pos hn]
  have b1:0≤(-n+8192).tdiv 16384:=Int.tdiv_nonneg (by omega) (by decide);have b2:(-n+8192).tdiv 16384≤-n+8192:=Int.tdiv_le_self _ (by omega);rw [←e] at b1 b2;rw [e2];simp only [T.wp,T.wp_cond,bF,decide_eq_true_eq,and_true,t];exact aq hn ⟨by unfold Sym.ae;omega,⟨by omega,by omega⟩,by unfold Sym.ae;omega⟩
 ·have e:F.nr n=(n+8192).tdiv 16384:=by
   unfold F.nr;rw [if_neg hn]
  have b1:0≤(n+8192).tdiv 16384:=Int.tdiv_nonneg (by omega) (by decide);have b2:(n+8192).tdiv 16384≤n+8192:=Int.tdiv_le_self _ (by omega);rw [e];simp only [T.wp,T.wp_cond,bF,decide_eq_true_eq,and_true,t];exact ap hn ⟨by decide,by unfold Sym.ae;omega,by unfold Sym.ae;omega,by decide,by unfold Sym.ae;omega⟩
def Ew:aH cod:=fun args H=>match args,H with
 | [.c (.int .i64 n),.c (.int .i64 16384)],[]=>.aa ((-100000000000000≤n∧n≤100000000000000)) (.ret (.c (.int .i64 (F.nr n)),[]))
 | _,_=>.fail
theorem GX:Sound Tryz.prog cod 121 Ew:=ax (cfg:=Cp) pF mixed Tryz.func121 rfl rfl _ fun args H r news hg b0 hb=>by
 unfold Ew at hg;split at hg
 ·skip
  simp only [T.ah,T.wp,Prod.mk.injEq] at hg;obtain ⟨q0,rfl,rfl⟩:=hg;exact Qa _ b0 hb (by assumption)
 ·exact hg.elim
def CK:aQ cod:=(121,.p Ew)::CJ
def Cq:aT cod:=c9 CK
theorem pG:cv Tryz.prog cod CK:=.cons GX pF
def uP:bA:=[]
theorem Rf (h:Int) (l:Int):aI Cq uP Tryz.f86.results.toList 0 400 [.code (aj Tryz.f86)] ⟨ay Tryz.f86 [.c (.int .i64 h),.c (.int .i64 l)],([]:Heap cod)⟩=
 cond (decide (l < 0)) (
 .ret (.fin (.aP [.agg [.int .i64 0,.int .i64 0],.c (.int .i64 4)]) [])) (
 cond (decide (2000000 < l)) (
  .ret (.fin (.aP [.agg [.int .i64 0,.int .i64 0],.c (.int .i64 4)]) [])) (
  .aa (ae (l*F.cp h)) (
  .aa (((-100000000000000:Int)≤l*F.cp h∧l*F.cp h≤100000000000000)) (
  .aa (ae (l*F.cx h)) (
  .aa (((-100000000000000:Int)≤l*F.cx h∧l*F.cx h≤100000000000000)) (
  .ret (.fin (.aP [.agg [.int .i64 (F.nr (l*F.cp h)),.int .i64 (F.nr (l*F.cx h))],.c (.int .i64 0)]) []))))))):=by kernel_rfl
theorem ME (h:Int) (l:Int) (b0:aC) (hb:b0.n=0) (h0:0≤l∧l≤2000000):Sym.af Tryz.prog b0 [.code (aj Tryz.f86)] ⟨ay Tryz.f86 [.c (.int .i64 h),.c (.int .i64 l)],([]:Heap cod)⟩ (Sym.Ends Tryz.prog Tryz.f86 0 (.aP [.agg [.int .i64 (F.vX h l),.int .i64 (F.vY h l)],.c (.int .i64 0)]) []):=by
 refine af.go (cfg:=Cq) pG mixed uP 400 hb (Rf h l) ?_;have s1:=l7 h;have s2:=oa h;have m1:=si h0 s1;have m2:=si h0 s2;have t1:¬l < 0:=by omega
 have t2:¬2000000 < l:=by omega
 simp only [T.wp,T.wp_cond,bF,decide_eq_true_eq,and_true];have k1:Sym.ae (l*F.cp h):=⟨Int.le_trans (show (-9223372036854775808:Int)≤-32768000000 by decide) m1.1,Int.le_trans m1.2 (show (32768000000:Int)≤9223372036854775807 by decide)⟩;have k2:Sym.ae (l*F.cx h):=⟨Int.le_trans (show (-9223372036854775808:Int)≤-32768000000 by decide) m2.1,Int.le_trans m2.2 (show (32768000000:Int)≤9223372036854775807 by decide)⟩;have k3: -100000000000000≤l*F.cp h∧l*F.cp h≤100000000000000:=⟨by omega,by omega⟩;have k4: -100000000000000≤l*F.cx h∧l*F.cx h≤100000000000000:=⟨by omega,by omega⟩;refine ap t1 (ap t2 ?_)
 first
  | exact ⟨k1,k3,k2,k4⟩
  | exact ⟨k1,k3,k2,k4,rfl⟩
def zf:aH cod:=fun args H=>match args,H with
 | [.c (.int .i64 h),.c (.int .i64 l)],[]=>.aa ((0≤l∧l≤2000000)) (.ret (.aP [.agg [.int .i64 (F.vX h l),.int .i64 (F.vY h l)],.c (.int .i64 0)],[]))
 | _,_=>.fail
theorem ER:Sound Tryz.prog cod 86 zf:=ax (cfg:=Cq) pG mixed Tryz.func86 rfl rfl _ fun args H r news hg b0 hb=>by
 unfold zf at hg;split at hg
 ·skip
  simp only [T.ah,T.wp,Prod.mk.injEq] at hg;obtain ⟨q0,rfl,rfl⟩:=hg;exact ME _ _ b0 hb (by assumption)
 ·exact hg.elim
def xh:aQ cod:=(86,.p zf)::CK
def wE:aT cod:=c9 xh
theorem mQ:cv Tryz.prog cod xh:=.cons ER pG
end
end
section
namespace Q
def Bd (b K:Nat):Prop:=dD b≤(K - 51)*4503599627370496
theorem BV:(2:Nat)^52=4503599627370496:=by decide
theorem dH {a b:Nat} (h:a≤b):(2:Nat)^a≤2^b:=Nat.pow_le_pow_right (by decide) h
theorem abJ {b K:Nat} (h:Bd b K) (hK:K≤2097):fin b=true:=by
 unfold Bd at h;unfold fin
 exact Nat.ble_eq_true_of_le (by
  have:(K - 51)*4503599627370496≤2046*4503599627370496:=Nat.mul_le_mul_right _ (by omega);omega)
theorem abK {b K:Nat} (h:Bd b K) (h1:53≤K):mg b*2^pl b≤2^K:=by
 unfold Bd at h;unfold mg pl;by_cases hr:dD b < 4503599627370496
 ·have:Nat.blt (dD b) 4503599627370496=true:=Nat.ble_eq_true_of_le hr;rw [this,cond_true,cond_true,Nat.pow_zero,Nat.mul_one];have:=dH (show 52≤K by omega);rw [BV] at this;omega
 ·have:Nat.blt (dD b) 4503599627370496=false:=by
   cases q:Nat.blt (dD b) 4503599627370496
   ·rfl
   ·exact absurd (Nat.le_of_ble_eq_true q) (by omega)
  rw [this,cond_false,cond_false];have hd:=Nat.div_add_mod (dD b) 4503599627370496;have hm:=Nat.mod_lt (dD b) (show 0 < 4503599627370496 by decide);generalize dD b / 4503599627370496=e at hd ⊢;generalize dD b % 4503599627370496=f at hd hm ⊢
  have he:e≤K - 51:=by
   by_cases q:e≤K - 51
   ·exact q
   ·have:(K - 51+1)*4503599627370496≤e*4503599627370496:=Nat.mul_le_mul_right _ (by omega);omega
  by_cases q:e=K - 51
  ·have hf:f=0:=by
    rw [q,Nat.mul_comm] at hd;omega
   rw [hf,Nat.add_zero,q,←BV,←Nat.pow_add];exact dH (by omega)
  ·have a1:(4503599627370496+f)≤2^53:=by
    have:(2:Nat)^53=9007199254740992:=by decide
    omega
   refine Nat.le_trans (Nat.mul_le_mul_right _ a1) ?_;rw [←Nat.pow_add];exact dH (by omega)
theorem abW (neg:Bool) (n d k:Nat) (h:n≤2^(k+d)):Ieee.Toward.even.cut neg n d≤2^k:=by
 unfold Ieee.Toward.cut;dsimp only;rw [Nat.one_shiftLeft];by_cases hd:d≤n.log2+2
 ·rw [Nat.min_eq_left hd];rw [Nat.pow_add] at h;have hg:0 < 2^d:=Nat.pow_pos (by decide);have hdm:=Nat.div_add_mod n (2^d);have hm:=Nat.mod_lt n hg;generalize n / 2^d=low at hdm ⊢;generalize n % 2^d=rest at hdm hm ⊢;generalize 2^d=g at*;generalize 2^k=c at*;rw [Nat.mul_comm g] at hdm
  have hl:low≤c:=by
   by_cases q:low≤c
   ·exact q
   ·have:(c+1)*g≤low*g:=Nat.mul_le_mul_right _ (by omega);rw [Nat.add_mul,Nat.one_mul] at this;omega
  by_cases q:low=c
  ·subst q;have hr:rest=0:=by omega
   subst hr;have e1:decide (g < 2*0)=false:=decide_eq_false (by omega);have e2:(g==2*0)=false:=beq_eq_false_iff_ne.2 (by omega);rw [e1,e2];simp
  ·have:=Bool.toNat_le (decide (g < 2*rest)||g==2*rest&&low % 2==1);omega
 ·rw [Nat.min_eq_right (by omega)];have cI:=Nat.lt_log2_self (n:=n);have e4:(2:Nat)^(n.log2+2)=2*2^(n.log2+1):=by rw [Nat.pow_succ,Nat.mul_comm]
  rw [e4];generalize 2^(n.log2+1)=g at cI ⊢;have e1:n / (2*g)=0:=Nat.div_eq_of_lt (by omega);have e2:n % (2*g)=n:=Nat.mod_eq_of_lt (by omega);rw [e1,e2];have e3:decide (2*g < 2*n)=false:=decide_eq_false (by omega);have e5:(2*g==2*n)=false:=beq_eq_false_iff_ne.2 (by omega);rw [e3,e5];simp
theorem B0 (neg:Bool) (r:Nat) (h:r≤9218868437227405312):dD (bif neg then 9223372036854775808+r else r)=r:=by
 unfold dD;cases neg
 ·rw [cond_false];omega
 ·rw [cond_true];omega
theorem rC {neg:Bool} {dv P K:Nat} (h:dv*2^P≤2^(K+2926)) (h1:53≤K):Bd (kv neg dv P) K:=by
 unfold kv Bd;cases h0:Nat.beq dv 0
 ·rw [cond_false];dsimp only;have hn:dv≠0:=fun e=>by rw [e] at h0;cases h0
  have l1:=Nat.log2_self_le hn;have l2:=Nat.lt_log2_self (n:=dv);generalize dv.log2=L at l1 l2 ⊢
  have hLP:L+P≤K+2926:=by
   have:2^(L+P)≤2^(K+2926):=by
    rw [Nat.pow_add];exact Nat.le_trans (Nat.mul_le_mul_right _ l1) h
   exact (Nat.pow_le_pow_iff_right (by decide)).1 this
  have kept:∀last k:Nat,dv≤2^L∧L+P≤k+last∨L+P+1≤k+last→(bif Nat.ble last P then dv <<< (P - last) else Ieee.Toward.even.cut neg dv (last - P))≤2^k:=by
   intro last k hk
   have ae3:∀t,L+1≤t∨(dv≤2^L∧L≤t)→dv≤2^t:=fun t ht=>by
    rcases ht with ht | ⟨h1,ht⟩
    ·exact Nat.le_trans (Nat.le_of_lt l2) (dH ht)
    ·exact Nat.le_trans h1 (dH ht)
   cases hb:Nat.ble last P
   ·have:¬last≤P:=fun q=>by rw [Nat.ble_eq_true_of_le q] at hb;cases hb
    rw [cond_false];exact abW _ _ _ _ (ae3 _ (by omega))
   ·have:=Nat.le_of_ble_eq_true hb;rw [cond_true,Nat.shiftLeft_eq];have hm:=ae3 (k - (P - last)) (by omega);refine Nat.le_trans (Nat.mul_le_mul_right _ hm) ?_;rw [←Nat.pow_add];exact dH (by omega)
  have fin:∀last k:Nat,max (P+L - 52) 2926=last→(bif Nat.ble last P then dv <<< (P - last) else Ieee.Toward.even.cut neg dv (last - P))≤k→(last - 2926)*4503599627370496+k≤(K - 51)*4503599627370496→dD (bif neg then 9223372036854775808+min ((last - 2926)*4503599627370496+(bif Nat.ble last P then dv <<< (P - last) else Ieee.Toward.even.cut neg dv (last - P))) 9218868437227405312 else min ((last - 2926)*4503599627370496+(bif Nat.ble last P then dv <<< (P - last) else Ieee.Toward.even.cut neg dv (last - P))) 9218868437227405312)≤(K - 51)*4503599627370496:=by
   intro last k _ hk hle;rw [B0 _ _ (Nat.min_le_right _ _)];refine Nat.le_trans (Nat.min_le_left _ _) ?_;omega
  by_cases q:L+P=K+2926
  ·have hm:dv≤2^L:=by
    rw [←q,Nat.pow_add] at h;exact Nat.le_of_mul_le_mul_right h (Nat.pow_pos (by decide))
   refine fin _ 4503599627370496 rfl ?_ ?_
   ·have:=kept (max (P+L - 52) 2926) 52 (.inl ⟨hm,by omega⟩)
    rwa [BV] at this
   ·have:max (P+L - 52) 2926 - 2926=K - 52:=by omega
    rw [this]
    have e:(K - 51)*4503599627370496=(K - 52)*4503599627370496+4503599627370496:=by
     have:(K - 51)=(K - 52)+1:=by omega
     rw [this,Nat.add_mul,Nat.one_mul]
    rw [e];exact Nat.le_refl _
  ·refine fin _ 9007199254740992 rfl ?_ ?_
   ·have:=kept (max (P+L - 52) 2926) 53 (.inr (by omega))
    rwa [show (2:Nat)^53=9007199254740992 by decide] at this
   ·have:max (P+L - 52) 2926 - 2926≤K - 53:=by omega
    have h5:=Nat.mul_le_mul_right 4503599627370496 this
    have e:(K - 51)*4503599627370496=(K - 53)*4503599627370496+9007199254740992:=by
     have:(K - 51)=(K - 53)+2:=by omega
     rw [this,Nat.add_mul]
    rw [e];exact Nat.add_le_add_right h5 _
 ·rw [cond_true];have:dD (bif neg then 9223372036854775808 else 0)=0:=by cases neg<;>rfl
  rw [this];exact Nat.zero_le _
theorem rM (m i base:Nat) (h:base≤i):shl m (i - base)*2^base=m*2^i:=by
 show (m <<< (i - base))*2^base=_;rw [Nat.shiftLeft_eq,Nat.mul_assoc,←Nat.pow_add,show i - base+base=i by omega]
theorem MR {s t:Bool} {m i n j Ka Kb K:Nat} (v1:m*2^i≤2^Ka) (v2:n*2^j≤2^Kb) (h1:Ka+1≤K) (h2:Kb+1≤K) (Pp:53≤K):Bd (CV s m i t n j) K:=by
 unfold CV;dsimp only;have x1:=rM m i (min i j) (Nat.min_le_left _ _);have x2:=rM n j (min i j) (Nat.min_le_right _ _);generalize min i j=base at x1 x2 ⊢;rw [←x1] at v1;rw [←x2] at v2;generalize shl m (i - base)=x at v1 ⊢;generalize shl n (j - base)=y at v2 ⊢
 have key:∀(sg:Bool) (z:Nat),z≤x+y→Bd (kv sg z (base+2926)) K:=fun sg z hz=>by
  refine rC ?_ Pp;rw [Nat.pow_add,←Nat.mul_assoc,Nat.pow_add];refine Nat.mul_le_mul_right _ ?_
  have a1:z*2^base≤x*2^base+y*2^base:=by
   rw [←Nat.add_mul];exact Nat.mul_le_mul_right _ hz
  have a2:(2:Nat)^K=2^(K - 1)+2^(K - 1):=by
   have:K=(K - 1)+1:=by omega
   rw [this,Nat.pow_succ,Nat.add_sub_cancel];omega
  have a3:=dH (show Ka≤K - 1 by omega);have a4:=dH (show Kb≤K - 1 by omega);omega
 cases s==t
 ·rw [cond_false];cases Nat.beq x y
  ·rw [cond_false];cases Nat.blt y x
   ·rw [cond_false];exact key _ _ (by omega)
   ·rw [cond_true];exact key _ _ (by omega)
  ·rw [cond_true];exact key _ _ (Nat.zero_le _)
 ·rw [cond_true];cases Nat.beq (x+y) 0
  ·rw [cond_false];exact key _ _ (Nat.le_refl _)
  ·rw [cond_true];exact key _ _ (Nat.zero_le _)
theorem aa7 (b:Nat):mg b < 9007199254740992:=by
 unfold mg;have hm:=Nat.mod_lt (dD b) (show 0 < 4503599627370496 by decide);by_cases hr:dD b < 4503599627370496
 ·have:Nat.blt (dD b) 4503599627370496=true:=Nat.ble_eq_true_of_le hr;rw [this,cond_true];omega
 ·have:Nat.blt (dD b) 4503599627370496=false:=by
   cases q:Nat.blt (dD b) 4503599627370496
   ·rfl
   ·exact absurd (Nat.le_of_ble_eq_true q) (by omega)
  rw [this,cond_false];omega
theorem afH {b:Nat} (h:fin b=true):pl b≤2046:=by
 unfold fin at h;have h:=Nat.le_of_ble_eq_true h;unfold pl;cases Nat.blt (dD b) 4503599627370496
 ·rw [cond_false];omega
 ·rw [cond_true];omega
theorem Ve {m:Nat} (h:m < 9007199254740992) (h0:m≠0):m.log2≤52:=by
 have:m.log2 < 53:=(Nat.log2_lt h0).2 (by rw [show (2:Nat)^53=9007199254740992 by decide];exact h);omega
theorem pwm9 (m i c a b:Nat) (h:i+c=a+b+1):2*(m*2^a)*2^b=m*2^i*2^c:=by
 have e2:(2:Nat)^i*2^c=2*(2^a*2^b):=by
  rw [←Nat.pow_add,←Nat.pow_add,←Nat.pow_succ',h]
 rw [Nat.mul_assoc m,e2];generalize 2^a=x;generalize 2^b=y;simp only [Nat.mul_assoc,Nat.mul_left_comm]
theorem ZL {m n i j Ka Lb K more:Nat} (hm0:m≠0) (_:n≠0) (hm:m.log2≤52) (hn2:n.log2≤52) (hj:j≤2046) (aaW:54+n.log2 - m.log2=more) (v1:m*2^i≤2^Ka) (hl:2^Lb≤n*2^j) (hK:Ka+1075≤K+Lb) (u:Nat) (hu:u≤1):
 (2*(m*2^more / n)+u)*2^(i+3999 - j - more)≤2^(K+2926):=by
 have a1:(2*(m*2^more / n)+u)*n≤2*(m*2^more)+n:=by
  have:=Nat.div_mul_le_self (m*2^more) n;rw [Nat.add_mul,Nat.mul_assoc];have h2:u*n≤1*n:=Nat.mul_le_mul_right _ hu;omega
 generalize 2*(m*2^more / n)+u=dv at a1 ⊢
 obtain ⟨c,hc⟩:∃c,c=4000:=⟨_,rfl⟩
 have a2:dv*2^(i+3999 - j - more)*(n*2^j)≤2^(Ka+c+1):=by
  have e:dv*2^(i+3999 - j - more)*(n*2^j)=dv*n*2^(i+3999 - more):=by
   rw [show i+3999 - more=(i+3999 - j - more)+j by omega,Nat.pow_add];generalize 2^(i+3999 - j - more)=x;generalize 2^j=y;simp only [Nat.mul_assoc,Nat.mul_left_comm]
  rw [e];refine Nat.le_trans (Nat.mul_le_mul_right _ a1) ?_;rw [Nat.add_mul]
  have b1:2*(m*2^more)*2^(i+3999 - more)≤2^(Ka+c):=by
   rw [pwm9 m i c more (i+3999 - more) (by omega),Nat.pow_add];exact Nat.mul_le_mul_right _ v1
  have b2:n*2^(i+3999 - more)≤2^(Ka+c):=by
   refine Nat.le_trans (Nat.mul_le_mul_right _ (Nat.le_of_lt (Nat.lt_log2_self (n:=n)))) ?_;rw [←Nat.pow_add]
   have:(2:Nat)^(m.log2+i)≤2^Ka:=by
    rw [Nat.pow_add];exact Nat.le_trans (Nat.mul_le_mul_right _ (Nat.log2_self_le hm0)) v1
   have:=(Nat.pow_le_pow_iff_right (by decide)).1 this;exact dH (by omega)
  have b3:(2:Nat)^(Ka+c+1)=2^(Ka+c)+2^(Ka+c):=by
   rw [Nat.pow_succ];omega
  rw [b3];exact Nat.add_le_add b1 b2
 have a3:dv*2^(i+3999 - j - more)*2^Lb≤2^(K+2926)*2^Lb:=by
  refine Nat.le_trans (Nat.mul_le_mul_left _ hl) (Nat.le_trans a2 ?_);rw [←Nat.pow_add];exact dH (by omega)
 exact Nat.le_of_mul_le_mul_right a3 (Nat.pow_pos (by decide))
end Q
namespace Q
theorem abV (neg:Bool) (n d k:Nat) (h:2^(k+d)≤n):2^k≤Ieee.Toward.even.cut neg n d:=by
 unfold Ieee.Toward.cut;dsimp only;rw [Nat.one_shiftLeft]
 have hn:n≠0:=fun e=>by
  rw [e] at h;exact absurd h (Nat.not_le.2 (Nat.pow_pos (by decide)))
 have hl:k+d≤n.log2:=by
  have:=Nat.lt_log2_self (n:=n);have:(2:Nat)^(k+d) < 2^(n.log2+1):=Nat.lt_of_le_of_lt h this;have:=(Nat.pow_lt_pow_iff_right (by decide)).1 this;omega
 rw [Nat.min_eq_left (by omega)]
 have:2^k≤n / 2^d:=by
  rw [Nat.le_div_iff_mul_le (Nat.pow_pos (by decide)),←Nat.pow_add];exact h
 omega
theorem NH {neg:Bool} {dv P K:Nat} (h:2^(K+2926)≤dv*2^P) (h1:52≤K∧K≤2096):(K - 51)*4503599627370496≤dD (kv neg dv P):=by
 unfold kv
 have hn:dv≠0:=fun e=>by
  rw [e,Nat.zero_mul] at h;exact absurd h (Nat.not_le.2 (Nat.pow_pos (by decide)))
 have h0:Nat.beq dv 0=false:=by
  cases q:Nat.beq dv 0
  ·rfl
  ·exact absurd (Nat.eq_of_beq_eq_true q) hn
 rw [h0,cond_false];dsimp only;have l1:=Nat.log2_self_le hn;have l2:=Nat.lt_log2_self (n:=dv);generalize dv.log2=L at l1 l2 ⊢
 have hLP:K+2926≤L+P:=by
  have:(2:Nat)^(K+2926) < 2^(L+1+P):=by
   refine Nat.lt_of_le_of_lt h ?_;rw [Nat.pow_add 2 (L+1)];exact Nat.mul_lt_mul_of_pos_right l2 (Nat.pow_pos (by decide))
  have:=(Nat.pow_lt_pow_iff_right (by decide)).1 this;omega
 have aeX:max (P+L - 52) 2926=P+L - 52:=by omega
 rw [aeX,B0 _ _ (Nat.min_le_right _ _)]
 have kept:4503599627370496≤(bif Nat.ble (P+L - 52) P then dv <<< (P - (P+L - 52)) else Ieee.Toward.even.cut neg dv (P+L - 52 - P)):=by
  rw [←BV];cases hb:Nat.ble (P+L - 52) P
  ·have:¬P+L - 52≤P:=fun q=>by rw [Nat.ble_eq_true_of_le q] at hb;cases hb
   rw [cond_false];exact abV _ _ _ _ (Nat.le_trans (dH (by omega)) l1)
  ·have:=Nat.le_of_ble_eq_true hb;rw [cond_true,Nat.shiftLeft_eq];refine Nat.le_trans ?_ (Nat.mul_le_mul_right _ l1);rw [←Nat.pow_add];exact dH (by omega)
 generalize (bif Nat.ble (P+L - 52) P then dv <<< (P - (P+L - 52)) else Ieee.Toward.even.cut neg dv (P+L - 52 - P))=kp at kept ⊢;refine Nat.le_min.2 ⟨?_,?_⟩
 ·have a1:(K - 52)*4503599627370496≤(P+L - 52 - 2926)*4503599627370496:=Nat.mul_le_mul_right _ (by omega)
  have e:(K - 51)*4503599627370496=(K - 52)*4503599627370496+4503599627370496:=by
   rw [show K - 51=(K - 52)+1 by omega,Nat.add_mul,Nat.one_mul]
  rw [e];exact Nat.add_le_add a1 kept
 ·have:(K - 51)*4503599627370496≤2045*4503599627370496:=Nat.mul_le_mul_right _ (by omega);exact Nat.le_trans this (by decide)
theorem NI (neg:Bool) (dv P:Nat):sg (kv neg dv P)=neg:=by
 have key:∀r,r≤9218868437227405312→sg (bif neg then 9223372036854775808+r else r)=neg:=fun r hr=>by
  unfold sg;cases neg
  ·rw [cond_false,show r / 9223372036854775808=0 by omega];rfl
  ·rw [cond_true,show (9223372036854775808+r) / 9223372036854775808=1 by omega];rfl
 unfold kv;cases Nat.beq dv 0
 ·rw [cond_false];exact key _ (Nat.min_le_right _ _)
 ·rw [cond_true];exact key 0 (Nat.zero_le _)
theorem Xj {b K:Nat} (h:(K - 51)*4503599627370496≤dD b) (h1:52≤K):2^K≤mg b*2^pl b:=by
 unfold mg pl;have h2:1*4503599627370496≤(K - 51)*4503599627370496:=Nat.mul_le_mul_right _ (by omega)
 have:Nat.blt (dD b) 4503599627370496=false:=by
  cases q:Nat.blt (dD b) 4503599627370496
  ·rfl
  ·exact absurd (Nat.le_of_ble_eq_true q) (by omega)
 rw [this,cond_false,cond_false];have he:K - 51≤dD b / 4503599627370496:=(Nat.le_div_iff_mul_le (by decide)).2 h;refine Nat.le_trans ?_ (Nat.mul_le_mul_right _ (Nat.le_add_right 4503599627370496 _));rw [←BV,←Nat.pow_add];exact dH (by rw [BV];omega)
theorem abD {a b L:Nat} (sa:sg a=false) (sb:sg b=false) (hb:2^L≤mg b*2^pl b) (h:52≤L∧L≤2096):sg (add a b)=false∧2^L≤mg (add a b)*2^pl (add a b):=by
 unfold add CV;dsimp only;rw [sa,sb];have x2:=rM (mg b) (pl b) (min (pl a) (pl b)) (Nat.min_le_right _ _);generalize min (pl a) (pl b)=base at x2 ⊢;rw [←x2] at hb;generalize shl (mg a) (pl a - base)=x;generalize shl (mg b) (pl b - base)=y at hb ⊢;rw [show (false==false)=true from rfl,cond_true]
 have hy:y≠0:=fun e=>by
  rw [e,Nat.zero_mul] at hb;exact absurd hb (Nat.not_le.2 (Nat.pow_pos (by decide)))
 have h0:Nat.beq (x+y) 0=false:=by
  cases q:Nat.beq (x+y) 0
  ·rfl
  ·exact absurd (Nat.eq_of_beq_eq_true q) (by omega)
 rw [h0,cond_false];refine ⟨NI _ _ _,Xj (NH ?_ h) h.1⟩;rw [Nat.pow_add,Nat.pow_add,←Nat.mul_assoc];refine Nat.mul_le_mul_right _ (Nat.le_trans hb (Nat.mul_le_mul_right _ (by omega)))
theorem ac7 (a b:Nat):sg (mul a b)=(sg a^^sg b):=NI _ _ _
end Q
namespace Q
def vl (b:Nat):Nat:=mg b*2^pl b
theorem ox {a b:Nat} (ha:fin a=true) (hb:fin b=true) (sa:sg a=false) (sb:sg b=false):∃x y base:Nat,Ieee.double.order a b=some (compare (x:Int) (y:Int))∧x*2^base=vl a∧y*2^base=vl b:=by
 refine ⟨shl (mg a) (pl a - min (pl a) (pl b)),shl (mg b) (pl b - min (pl a) (pl b)),min (pl a) (pl b),?_,rM _ _ _ (Nat.min_le_left _ _),rM _ _ _ (Nat.min_le_right _ _)⟩;unfold Ieee.Format.order;rw [eo ha,eo hb];unfold Ieee.Datum.order;dsimp only;have e1:min ((pl a:Int) - 1074) ((pl b:Int) - 1074)=((min (pl a) (pl b):Nat):Int) - 1074:=by omega
 have hm1:min (pl a) (pl b)≤pl a:=Nat.min_le_left _ _;have hm2:min (pl a) (pl b)≤pl b:=Nat.min_le_right _ _;rw [e1];generalize min (pl a) (pl b)=B at hm1 hm2 ⊢;rw [show ((pl a:Int) - 1074 - ((B:Int) - 1074)).toNat=pl a - B by omega,show ((pl b:Int) - 1074 - ((B:Int) - 1074)).toNat=pl b - B by omega,sa,sb];rfl
theorem YF {a b:Nat} (ha:fin a=true) (hb:fin b=true) (sa:sg a=false) (sb:sg b=false) (h:(Sym.F.Dp .f64 a b||Sym.F.iO .f64 a b)=true):vl a≤vl b:=by
 obtain ⟨x,y,B,h1,h2,h3⟩:=ox ha hb sa sb;unfold Sym.F.Dp Sym.F.iO at h;have jj:FloatKind.f64.format.order a b=some (compare (x:Int) (y:Int)):=h1;rw [jj] at h;rw [←h2,←h3];refine Nat.mul_le_mul_right _ ?_;rcases Int.lt_trichotomy (x:Int) y with q | q | q
 ·omega
 ·omega
 ·rw [Int.compare_eq_gt.2 q] at h;cases h
theorem YC {a b:Nat} (ha:fin a=true) (hb:fin b=true) (sa:sg a=false) (sb:sg b=false) (h:Sym.F.nl .f64 a b=true):vl b≤vl a:=by
 obtain ⟨x,y,B,h1,h2,h3⟩:=ox ha hb sa sb;unfold Sym.F.nl at h;have jj:FloatKind.f64.format.order a b=some (compare (x:Int) (y:Int)):=h1;rw [jj] at h;rw [←h2,←h3];refine Nat.mul_le_mul_right _ ?_;rcases Int.lt_trichotomy (x:Int) y with q | q | q
 ·rw [Int.compare_eq_lt.2 q] at h;cases h
 ·omega
 ·omega
theorem ab7 {a b:Nat} (ha:fin a=true) (hb:fin b=true) (sa:sg a=false) (sb:sg b=false) (h:Sym.F.nl .f64 a b=false):vl a≤vl b:=by
 obtain ⟨x,y,B,h1,h2,h3⟩:=ox ha hb sa sb;unfold Sym.F.nl at h;have jj:FloatKind.f64.format.order a b=some (compare (x:Int) (y:Int)):=h1;rw [jj] at h;rw [←h2,←h3];refine Nat.mul_le_mul_right _ ?_;rcases Int.lt_trichotomy (x:Int) y with q | q | q
 ·omega
 ·omega
 ·rw [Int.compare_eq_gt.2 q] at h;cases h
end Q
namespace Q
def Bv (b K:Nat):Prop:=fin b=true∧vl b≤2^K
theorem bvm9 {b K L:Nat} (h:Bv b K) (g:K≤L):Bv b L:=⟨h.1,Nat.le_trans h.2 (dH g)⟩
theorem bvt9 {a b K:Nat} (h:fin a=true) (g:vl a≤vl b) (k:Bv b K):Bv a K:=⟨h,Nat.le_trans g k.2⟩
def Lo9 (L x:Nat):Prop:=2^L≤x
theorem lot9 {L x y:Nat} (h:Lo9 L x) (g:x≤y):Lo9 L y:=Nat.le_trans h g
theorem mul39 {x y p q c Ka Kb K:Nat} (v1:x*2^p≤2^Ka) (v2:y*2^q≤2^Kb) (h:Ka+Kb+c≤K):x*y*2^(p+q+c)≤2^K:=by
 have e:x*y*2^(p+q+c)=(x*2^p)*(y*2^q)*2^c:=by
  rw [Nat.pow_add,Nat.pow_add];generalize 2^p=u;generalize 2^q=v;generalize 2^c=w;simp only [Nat.mul_assoc,Nat.mul_left_comm]
 rw [e];refine Nat.le_trans (Nat.mul_le_mul_right _ (Nat.mul_le_mul v1 v2)) ?_;rw [←Nat.pow_add,←Nat.pow_add];exact dH h
theorem AW {b K:Nat} (h:Bd b K) (h1:53≤K∧K≤2097):Bv b K:=⟨abJ h h1.2,abK h h1.1⟩
theorem P8 {a b Ka Kb K:Nat} (ha:Bv a Ka) (hb:Bv b Kb) (hK:Ka+Kb≤K+1074) (Pp:53≤K∧K≤2097):∃r,floatBits .mul .f64 a b=some r∧Bv r K:=by
 refine ⟨_,mul_eq ha.1 hb.1,?_⟩;unfold mul;exact AW (rC (mul39 (x:=mg a) (y:=mg b) (p:=pl a) (q:=pl b) (c:=1852) (Ka:=Ka) (Kb:=Kb) (K:=K+2926) ha.2 hb.2 (by omega)) Pp.1) Pp
theorem CW {a b Ka Kb K:Nat} (ha:Bv a Ka) (hb:Bv b Kb) (h1:Ka+1≤K) (h2:Kb+1≤K) (Pp:53≤K∧K≤2097):∃r,floatBits .add .f64 a b=some r∧Bv r K:=by
 refine ⟨_,add_eq ha.1 hb.1,?_⟩;unfold add;exact AW (MR ha.2 hb.2 h1 h2 Pp.1) Pp
theorem adF {a b Ka Kb K:Nat} (ha:Bv a Ka) (hb:Bv b Kb) (h1:Ka+1≤K) (h2:Kb+1≤K) (Pp:53≤K∧K≤2097):∃r,floatBits .sub .f64 a b=some r∧Bv r K:=by
 refine ⟨_,sub_eq ha.1 hb.1,?_⟩;unfold sub;exact AW (MR ha.2 hb.2 h1 h2 Pp.1) Pp
theorem TG {a b Ka Lb K:Nat} (ha:Bv a Ka) (hb:fin b=true) (hl:Lo9 Lb (vl b)) (hK:Ka+1075≤K+Lb) (Pp:53≤K∧K≤2097):∃r,floatBits .quo .f64 a b=some r∧Bv r K:=by
 have hl:2^Lb≤mg b*2^pl b:=hl
 show ∃r,((Ieee.double.read a).quotient 54 (Ieee.double.read b)).map Ieee.double.write=some r∧Bv r K
 have hn:mg b≠0:=fun e=>by
  rw [e,Nat.zero_mul] at hl;exact absurd hl (Nat.not_le.2 (Nat.pow_pos (by decide)))
 have v1:mg a*2^pl a≤2^Ka:=ha.2;have p2:=afH hb;have n2:=Ve (aa7 b) hn;have m2:=aa7 a;rw [eo ha.1,eo hb];unfold Ieee.Datum.quotient;dsimp only;rw [if_neg hn,Option.map_some];refine ⟨_,rfl,?_⟩;unfold Ieee.Format.write;dsimp only;generalize mg a=m at*;generalize mg b=n at*;generalize pl a=i at*;generalize pl b=j at*
 have hlm:m.log2≤52:=by
  by_cases h0:m=0
  ·rw [h0];decide
  ·exact Ve m2 h0
 generalize aaW:54+n.log2 - m.log2=more;have ai8:more≤106:=by omega
 rw [show ((i:Int) - 1074 - ((j:Int) - 1074) - (more:Int) - 1)=((i+3999 - j - more:Nat):Int) - 4000 by omega,rD];refine AW (rC ?_ Pp.1) Pp;rw [Nat.shiftLeft_eq];by_cases h0:m=0
 ·subst h0;rw [Nat.zero_mul,Nat.zero_div,Nat.zero_mod,Nat.mul_zero,show ((0:Nat) !=0)=false from rfl,Bool.toNat_false,Nat.add_zero,Nat.zero_mul];exact Nat.zero_le _
 ·exact ZL h0 hn hlm n2 p2 aaW v1 hl hK _ (Bool.toNat_le _)
end Q
namespace F
def fb (op:BinOp) (a b:Nat):Option Nat:=floatBits op .f64 a b
def Q7 (z c:Nat) (a:Option Nat):Option Nat:=a.bind fun a=>(fb .mul a z).bind fun m=>fb .add m c
def adN (z:Nat):Option Nat:=Q7 z 13857635882265799822 (Q7 z 13861719834326579749 (Q7 z 13858350711815275123 (Q7 z 13848613196940411002 (some 13829429103926125972))))
def adM (z:Nat):Option Nat:=Q7 z 4641049159275471596 (Q7 z 4647246694406179306 (Q7 z 4646322940342877755 (Q7 z 4640010388282866213 (fb .add z 4627690253511319612))))
def xat (x:Nat):Option Nat:=
 (fb .mul x x).bind fun z=>(adN z).bind fun n=>(fb .mul z n).bind fun t=>(adM z).bind fun d=>(fb .quo t d).bind fun q=>(fb .mul x q).bind fun w=>fb .add w x
end F
namespace Q
theorem EN {z c a K Kc:Nat} {o:Option Nat} (ho:o=some a) (ha:Bv a K) (hz:Bv z 1082) (hc:Bv c Kc) (h1:Kc+1≤K+9) (h2:53≤K∧K≤2000):∃r,F.Q7 z c o=some r∧Bv r (K+9):=by
 obtain ⟨m,e1,b1⟩:=P8 (K:=K+8) ha hz (by omega) (by omega);obtain ⟨r,e2,b2⟩:=CW (K:=K+9) b1 hc (by omega) (by omega) (by omega);refine ⟨r,?_,b2⟩;unfold F.Q7;rw [ho,Option.bind_some];show (floatBits .mul .f64 a z).bind _=_;rw [e1,Option.bind_some];exact e2
theorem kc {c K:Nat} (h:(fin c&&Nat.ble (vl c) (2^K))=true):Bv c K:=by
 obtain ⟨a,b⟩:=Bool.and_eq_true_iff.1 h;exact ⟨a,Nat.le_of_ble_eq_true b⟩
theorem aaw {z:Nat} (hz:Bv z 1082):∃r,F.adN z=some r∧Bv r 1111:=by
 obtain ⟨r1,e1,b1⟩:=EN (c:=13848613196940411002) (Kc:=1079) rfl (kc (c:=13829429103926125972) (K:=1075) (by decide+kernel)) hz (kc (by decide+kernel)) (by omega) (by omega);obtain ⟨r2,e2,b2⟩:=EN (c:=13858350711815275123) (Kc:=1081) e1 b1 hz (kc (by decide+kernel)) (by omega) (by omega);obtain ⟨r3,e3,b3⟩:=EN (c:=13861719834326579749) (Kc:=1081) e2 b2 hz (kc (by decide+kernel)) (by omega) (by omega);obtain ⟨r4,e4,b4⟩:=EN (c:=13857635882265799822) (Kc:=1081) e3 b3 hz (kc (by decide+kernel)) (by omega) (by omega);exact ⟨r4,e4,b4⟩
theorem abE {m c r L:Nat} (h:floatBits .add .f64 m c=some r) (fm:fin m=true) (fc:fin c=true) (sm:sg m=false) (sc:sg c=false) (hl:Lo9 L (vl c)) (h1:52≤L∧L≤2096):sg r=false∧Lo9 L (vl r):=by
 rw [add_eq fm fc] at h;obtain rfl:=Option.some.inj h;exact abD sm sc hl h1
theorem afy {a z r:Nat} (h:floatBits .mul .f64 a z=some r) (fa:fin a=true) (fz:fin z=true):sg r=(sg a^^sg z):=by
 rw [mul_eq fa fz] at h;obtain rfl:=Option.some.inj h;exact ac7 _ _
theorem aad {z c a K Kc L:Nat} {o:Option Nat} (ho:o=some a) (ha:Bv a K) (sa:sg a=false) (hz:Bv z 1082) (sz:sg z=false) (hc:Bv c Kc) (sc:sg c=false) (hl:Lo9 L (vl c)) (hL:52≤L∧L≤2096) (h1:Kc+1≤K+9) (h2:53≤K∧K≤2000):
 ∃r,F.Q7 z c o=some r∧Bv r (K+9)∧sg r=false∧Lo9 L (vl r):=by
 obtain ⟨m,e1,b1⟩:=P8 (K:=K+8) ha hz (by omega) (by omega);obtain ⟨r,e2,b2⟩:=CW (K:=K+9) b1 hc (by omega) (by omega) (by omega);have sm:sg m=false:=by rw [afy e1 ha.1 hz.1,sa,sz];rfl
 obtain ⟨s1,s2⟩:=abE e2 b1.1 hc.1 sm sc hl hL;refine ⟨r,?_,b2,s1,s2⟩;unfold F.Q7;rw [ho,Option.bind_some];show (floatBits .mul .f64 a z).bind _=_;rw [e1,Option.bind_some];exact e2
theorem lc {c L:Nat} (h:Nat.ble (2^L) (vl c)=true):Lo9 L (vl c):=Nat.le_of_ble_eq_true h
theorem aav {z:Nat} (hz:Bv z 1082) (sz:sg z=false):∃r,F.adM z=some r∧Bv r 1119∧Lo9 1081 (vl r):=by
 have c0:Bv 4627690253511319612 1079:=kc (by decide+kernel);obtain ⟨r0,e0,b0⟩:=CW (K:=1083) hz c0 (by omega) (by omega) (by omega);obtain ⟨s0,_⟩:=abE (L:=1074) e0 hz.1 c0.1 sz (by decide+kernel) (lc (by decide+kernel)) (by omega);obtain ⟨r1,e1,b1,s1,_⟩:=aad (c:=4640010388282866213) (Kc:=1082) (L:=1074) e0 b0 s0 hz sz (kc (by decide+kernel)) (by decide+kernel) (lc (by decide+kernel)) (by omega) (by omega) (by omega);obtain ⟨r2,e2,b2,s2,_⟩:=aad (c:=4646322940342877755) (Kc:=1083) (L:=1074) e1 b1 s1 hz sz (kc (by decide+kernel)) (by decide+kernel) (lc (by decide+kernel)) (by omega) (by omega) (by omega);obtain ⟨r3,e3,b3,s3,_⟩:=aad (c:=4647246694406179306) (Kc:=1083) (L:=1074) e2 b2 s2 hz sz (kc (by decide+kernel)) (by decide+kernel) (lc (by decide+kernel)) (by omega) (by omega) (by omega);obtain ⟨r4,e4,b4,s4,l4⟩:=aad (c:=4641049159275471596) (Kc:=1082) (L:=1081) e3 b3 s3 hz sz (kc (by decide+kernel)) (by decide+kernel) (lc (by decide+kernel)) (by omega) (by omega) (by omega);exact ⟨r4,e4,b4,l4⟩
theorem MH {x:Nat} (hx:Bv x 1078):∃r,F.xat x=some r∧Bv r 1118:=by
 obtain ⟨z,e0,bz⟩:=P8 (K:=1082) hx hx (by omega) (by omega);have sz:sg z=false:=by rw [afy e0 hx.1 hx.1];simp
 obtain ⟨n,e1,bn⟩:=aaw bz;obtain ⟨t,e2,bt⟩:=P8 (K:=1119) bz bn (by omega) (by omega);obtain ⟨d,e3,bd,ld⟩:=aav bz sz;obtain ⟨q,e4,bq⟩:=TG (K:=1113) bt bd.1 ld (by omega) (by omega);obtain ⟨w,e5,bw⟩:=P8 (K:=1117) hx bq (by omega) (by omega);obtain ⟨r,e6,br⟩:=CW (K:=1118) bw hx (by omega) (by omega) (by omega);refine ⟨r,?_,br⟩;unfold F.xat;show (floatBits .mul .f64 x x).bind _=_;rw [e0,Option.bind_some,e1,Option.bind_some];show (floatBits .mul .f64 z n).bind _=_;rw [e2,Option.bind_some,e3,Option.bind_some];show (floatBits .quo .f64 t d).bind _=_;rw [e4,Option.bind_some];show (floatBits .mul .f64 x q).bind _=_;rw [e5,Option.bind_some];exact e6
end Q
end
end Go.Proofs.YtcjagpfbhnmggaaGreatDoor
