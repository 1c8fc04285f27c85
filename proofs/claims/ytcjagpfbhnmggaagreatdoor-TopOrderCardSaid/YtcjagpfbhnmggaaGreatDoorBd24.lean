/- Parts of the proof. -/
import Derived.Test.YtcjagpfbhnmggaaGreatDoorBd23
namespace Go.Proofs.YtcjagpfbhnmggaaGreatDoor
section
open Sym Go.RowKit
noncomputable section
set_option maxRecDepth 100000
set_option maxHeartbeats 4000000
namespace F
def lZ (aa of:Int):Int:=if 1≤of∧of≤16∧1≤aa∧aa≤of then 0 else 4
end F
def Ek:aH cod:=fun args H=>match H with
 | []=>match rd args with
   | some [[aa],[of]]=>(.ret (.c (.int .i64 (F.lZ aa of)),[]))
   | _=>.fail
 | _=>.fail
theorem JF (aa of:Int):aI cf [] Tryz.f33.results.toList ([]:Heap cod).length 400 [.code (aj Tryz.f33)] ⟨ay Tryz.f33 [.c (.int .i64 aa),.c (.int .i64 of)],[]⟩=
 cond (decide (of < 1)) (
 .ret (.fin (.c (.int .i64 4)) [])) (
 cond (decide (16 < of)) (
  .ret (.fin (.c (.int .i64 4)) [])) (
  cond (decide (aa < 1)) (
   .ret (.fin (.c (.int .i64 4)) [])) (
   cond (decide (of < aa)) (
    .ret (.fin (.c (.int .i64 4)) [])) (
    .ret (.fin (.c (.int .i64 0)) []))))):=by kernel_rfl
theorem FP:Sound Tryz.prog cod 33 Ek:=aW (cfg:=cf) bV mixed Tryz.func33 rfl rfl _ 400 fun args H r news hg=>by
 unfold Ek at hg;split at hg
 ·split at hg
  ·rename_i aa of dn;have aJ:=b8 dn;simp only [List.map,oS] at aJ;subst aJ;clear dn;rw [JF]
   try simp only [T.ah,T.wp,Prod.mk.injEq] at hg
   obtain ⟨rfl,rfl⟩:=hg;simp only [T.wp,T.wp_cond,Fin.fin.injEq,SV.c.injEq,Cell.int.injEq,and_true,true_and,decide_eq_true_eq,F.lZ]
   (repeat' split)<;>simp_all<;>omega
  ·exact hg.elim
 ·exact hg.elim
def CB:aQ cod:=(33,.p Ek)::iY
def MI:aT cod:=c9 CB
theorem wK:cv Tryz.prog cod CB:=.cons FP bV
namespace F
def s1 (x:Int):Int:=IntKind.wrap .u64 (bits .and .u64 (x.fdiv (2^min (Int.toNat 1) 64)) 6148914691236517205+bits .and .u64 x 6148914691236517205)
def s2 (x:Int):Int:=IntKind.wrap .u64 (bits .and .u64 (x.fdiv (2^min (Int.toNat 2) 64)) 3689348814741910323+bits .and .u64 x 3689348814741910323)
def s3 (x:Int):Int:=bits .and .u64 (IntKind.wrap .u64 (x.fdiv (2^min (Int.toNat 4) 64)+x)) 1085102592571150095
def s4 (x:Int) (k:Int):Int:=IntKind.wrap .u64 (x+x.fdiv (2^min k.toNat 64))
def aah (x:Int):Int:=s4 (s4 (s4 (s3 (s2 (s1 x))) 8) 16) 32
end F
theorem u64_and_nat (a b:Nat) (ha:a < 18446744073709551616) (hb:b < 18446744073709551616):bits .and .u64 (a:Int) (b:Int)=((a&&& b:Nat):Int):=by
 have hx:a&&& b < 2^64:=Nat.and_lt_two_pow _ (by omega);have h1:(BitVec.ofInt 64 (a:Int)).toNat=a:=by rw [BitVec.ofInt_natCast,BitVec.toNat_ofNat];exact Nat.mod_eq_of_lt (by omega)
 have h2:(BitVec.ofInt 64 (b:Int)).toNat=b:=by rw [BitVec.ofInt_natCast,BitVec.toNat_ofNat];exact Nat.mod_eq_of_lt (by omega)
 show IntKind.u64.wrap ((BitVec.ofInt 64 (a:Int)&&& BitVec.ofInt 64 (b:Int)).toNat:Int)=_;rw [BitVec.toNat_and,h1,h2];show ((a&&& b:Nat):Int) % 18446744073709551616=_;omega
theorem lS (a b:Nat) (ha:a < 9223372036854775808) (hb:b < 9223372036854775808):bits .and .i64 (a:Int) (b:Int)=((a&&& b:Nat):Int):=by
 have hx:a&&& b < 2^63:=Nat.and_lt_two_pow _ (by omega);have h1:(BitVec.ofInt 64 (a:Int)).toNat=a:=by rw [BitVec.ofInt_natCast,BitVec.toNat_ofNat];exact Nat.mod_eq_of_lt (by omega)
 have h2:(BitVec.ofInt 64 (b:Int)).toNat=b:=by rw [BitVec.ofInt_natCast,BitVec.toNat_ofNat];exact Nat.mod_eq_of_lt (by omega)
 show IntKind.i64.wrap ((BitVec.ofInt 64 (a:Int)&&& BitVec.ofInt 64 (b:Int)).toNat:Int)=_;rw [BitVec.toNat_and,h1,h2,IntKind.wrap_i64];omega
theorem Gs (a b:Nat) (ha:a < 9223372036854775808) (hb:b < 9223372036854775808):bits .or .i64 (a:Int) (b:Int)=((a||| b:Nat):Int):=by
 have hx:a||| b < 2^63:=Nat.or_lt_two_pow (by omega) (by omega);have h1:(BitVec.ofInt 64 (a:Int)).toNat=a:=by rw [BitVec.ofInt_natCast,BitVec.toNat_ofNat];exact Nat.mod_eq_of_lt (by omega)
 have h2:(BitVec.ofInt 64 (b:Int)).toNat=b:=by rw [BitVec.ofInt_natCast,BitVec.toNat_ofNat];exact Nat.mod_eq_of_lt (by omega)
 show IntKind.i64.wrap ((BitVec.ofInt 64 (a:Int)||| BitVec.ofInt 64 (b:Int)).toNat:Int)=_;rw [BitVec.toNat_or,h1,h2,IntKind.wrap_i64];omega
theorem wrap_u64 (n:Nat) (h:n < 18446744073709551616):IntKind.wrap .u64 (n:Int)=n:=by
 show (n:Int) % 18446744073709551616=n;omega
theorem lP (n k:Nat) (j:Int) (hj:Int.toNat j=k) (h:k≤64):Int.fdiv (n:Int) (2^min j.toNat 64)=((n >>> k:Nat):Int):=by
 rw [hj,Nat.min_eq_left h,Nat.shiftRight_eq_div_pow,Int.fdiv_eq_ediv_of_nonneg _ (by exact Int.pow_nonneg (by omega))]
 norm_cast
theorem W3 (n:Nat) (h:n < 65536):F.aah (n:Int)=(F.swn n:Int):=by
 unfold F.aah F.swn;have hs:∀m k,m < 18446744073709551616→m >>> k < 18446744073709551616:=fun m k hm=>Nat.lt_of_le_of_lt (Nat.shiftRight_le ..) hm;have hl:∀a b:Nat,a&&& b≤b:=fun a b=>Nat.and_le_right
 have e1:F.s1 (n:Int)=(((n >>> 1)&&& 6148914691236517205)+(n&&& 6148914691236517205):Nat):=by
  unfold F.s1;rw [lP n 1 1 rfl (by omega)];have h1:=u64_and_nat (n >>> 1) 6148914691236517205 (hs _ _ (by omega)) (by omega);have h2:=u64_and_nat n 6148914691236517205 (by omega) (by omega);have h3:=hl (n >>> 1) 6148914691236517205;have h4:=hl n 6148914691236517205;rw [show (6148914691236517205:Int)=((6148914691236517205:Nat):Int) from rfl,h1,h2,←Int.natCast_add,wrap_u64 _ (by omega)]
 rw [e1];generalize hA:((n >>> 1)&&& 6148914691236517205)+(n&&& 6148914691236517205)=A
 have hA':A < 18446744073709551616:=by
  have h3:=hl (n >>> 1) 6148914691236517205;have h4:=hl n 6148914691236517205;omega
 have e2:F.s2 (A:Int)=(((A >>> 2)&&& 3689348814741910323)+(A&&& 3689348814741910323):Nat):=by
  unfold F.s2;rw [lP A 2 2 rfl (by omega)];have h1:=u64_and_nat (A >>> 2) 3689348814741910323 (hs _ _ hA') (by omega);have h2:=u64_and_nat A 3689348814741910323 hA' (by omega);have h3:=hl (A >>> 2) 3689348814741910323;have h4:=hl A 3689348814741910323;rw [show (3689348814741910323:Int)=((3689348814741910323:Nat):Int) from rfl,h1,h2,←Int.natCast_add,wrap_u64 _ (by omega)]
 rw [e2];generalize hB:((A >>> 2)&&& 3689348814741910323)+(A&&& 3689348814741910323)=B
 have hB':B≤7378697629483820646:=by
  have h3:=hl (A >>> 2) 3689348814741910323;have h4:=hl A 3689348814741910323;omega
 have e3:F.s3 (B:Int)=((((B >>> 4)+B)&&& 1085102592571150095:Nat):Int):=by
  unfold F.s3;have h5:B >>> 4≤B:=Nat.shiftRight_le ..;rw [lP B 4 4 rfl (by omega),←Int.natCast_add,wrap_u64 _ (by omega)];exact u64_and_nat _ 1085102592571150095 (by omega) (by omega)
 rw [e3];generalize hC:((B >>> 4)+B)&&& 1085102592571150095=C
 have hC':C≤1085102592571150095:=by
  have h3:=hl ((B >>> 4)+B) 1085102592571150095;omega
 have e4:∀(m k:Nat) (j:Int),Int.toNat j=k→k≤64→m+(m >>> k) < 18446744073709551616→F.s4 (m:Int) j=((m+(m >>> k):Nat):Int):=fun m k j hj hk hm=>by
  unfold F.s4;rw [lP m k j hj hk,←Int.natCast_add,wrap_u64 _ hm]
 have g1:C >>> 8≤C:=Nat.shiftRight_le ..;rw [e4 C 8 8 rfl (by omega) (by omega)];generalize hD:C+C >>> 8=D;have g2:D >>> 16≤D:=Nat.shiftRight_le ..;rw [e4 D 16 16 rfl (by omega) (by omega)];generalize hE:D+D >>> 16=E;have g3:E >>> 32≤E:=Nat.shiftRight_le ..;rw [e4 E 32 32 rfl (by omega) (by omega)];subst hE hD hC hB;rfl
def oB:aH cod:=fun args H=>match args,H with
 | [.c (.int .u64 x)],[]=>.aa (0≤x∧x < 65536) (.ret (.c (.int .i64 (F.pop 16 x.toNat)),[]))
 | _,_=>.fail
theorem KD (x:Int):aI MI [] Tryz.f160.results.toList 0 400 [.code (aj Tryz.f160)] ⟨ay Tryz.f160 [.c (.int .u64 x)],[]⟩=
 .aa ((0:Int)≤1) (.aa ((0:Int)≤2) (.aa ((0:Int)≤4) (.aa ((0:Int)≤8) (.aa ((0:Int)≤16) (.aa ((0:Int)≤32) (.aa (ae (F.aah x)) (.ret (.fin (.c (.int .i64 (bits .and .i64 (F.aah x) 127))) [])))))))):=by kernel_rfl
theorem Hd:Sound Tryz.prog cod 160 oB:=aW (cfg:=MI) wK mixed Tryz.func160 rfl rfl _ 400 fun args H r news hg=>by
 unfold oB at hg;split at hg
 ·rename_i x;simp only [T.ah,T.wp,Prod.mk.injEq] at hg;obtain ⟨⟨h0,h1⟩,rfl,rfl⟩:=hg;obtain ⟨n,rfl⟩:=Int.eq_ofNat_of_zero_le h0;rw [show ([]:Heap cod).length=0 from rfl,KD];obtain ⟨p1,p2⟩:=aai n (by omega);have ahj:=lS (F.swn n) 127 (by omega) (by omega);have hm:=Nat.and_two_pow_sub_one_eq_mod (F.swn n) 7;simp at hm;rw [W3 n (by omega)];simp only [T.wp,Int.toNat_natCast,Fin.fin.injEq,SV.c.injEq,Cell.int.injEq,true_and,and_true];refine ⟨by omega,by omega,by omega,by omega,by omega,by omega,by unfold ae;omega,?_⟩;rw [show (127:Int)=((127:Nat):Int) from rfl,ahj,hm,p2]
 ·exact hg.elim
def CM:aQ cod:=(160,.p oB)::CB
def ML:aT cod:=c9 CM
theorem wX:cv Tryz.prog cod CM:=.cons Hd wK
theorem afJ (x:Int):aI ML [] Tryz.f148.results.toList 0 400 [.code (aj Tryz.f148)] ⟨ay Tryz.f148 [.c (.int .u64 x)],[]⟩=
.aa (((0:Int)≤x∧x < 65536)) (
.ret (.fin (.c (.int .i64 (Int.ofNat (F.pop 16 x.toNat)))) [])):=by kernel_rfl
theorem Qu:Sound Tryz.prog cod 148 oB:=aW (cfg:=ML) wX mixed Tryz.func148 rfl rfl _ 400 fun args H r news hg=>by
 unfold oB at hg;split at hg
 ·rename_i x;simp only [T.ah,T.wp,Prod.mk.injEq] at hg;rw [show ([]:Heap cod).length=0 from rfl,afJ,←hg.2.1,←hg.2.2];simp only [T.wp,Int.ofNat_eq_natCast,and_true];exact hg.1
 ·exact hg.elim
def afO:aH cod:=oB
namespace F
def cb (h m:Int):Int:=pop 16 (h.toNat % 2^m.toNat)
def nh (h:Int) (fI:Bool):Int:=2*h % 65536+(if fI then 1 else 0)
end F
def Sw:aQ cod:=(148,.p afO)::CM
def RT:aT cod:=c9 Sw
theorem wY:cv Tryz.prog cod Sw:=.cons Qu wX
theorem Gt {n:Int} (h:ae n):IntKind.wrap .i64 n=n:=by
 unfold ae at h;rw [IntKind.wrap_i64];omega
theorem Xb {n:Int} (h:0≤n∧n < 18446744073709551616):IntKind.wrap .u64 n=n:=by
 obtain ⟨m,rfl⟩:=Int.eq_ofNat_of_zero_le h.1;exact wrap_u64 m (by omega)
theorem Vj {h m:Int} (hh:0≤h∧h < 65536) (hm:0≤m∧m≤16):ae (IntKind.wrap .i64 (1*2^min m.toNat 64) - 1)∧bits .and .i64 h (IntKind.wrap .i64 (1*2^min m.toNat 64) - 1)=((h.toNat % 2^m.toNat:Nat):Int):=by
 obtain ⟨a,rfl⟩:=Int.eq_ofNat_of_zero_le hh.1;obtain ⟨k,rfl⟩:=Int.eq_ofNat_of_zero_le hm.1;have hk:k≤16:=by omega
 have h1:2^k≤2^16:=Nat.pow_le_pow_right (by omega) hk;have h2:0 < 2^k:=Nat.two_pow_pos k;rw [Int.toNat_natCast,Nat.min_eq_left (by omega),Int.one_mul,show ((2:Int)^k)=((2^k:Nat):Int) by norm_cast];have h3:ae ((2^k:Nat):Int):=by unfold ae;omega
 rw [Gt h3];have h4:((2^k:Nat):Int) - 1=((2^k - 1:Nat):Int):=by omega
 rw [h4];refine ⟨by unfold ae;omega,?_⟩;rw [lS _ _ (by omega) (by omega),Nat.and_two_pow_sub_one_eq_mod,Int.toNat_natCast]
theorem Z3 {h:Int} (hh:0≤h∧h < 65536):bits .and .i64 (IntKind.wrap .i64 (h*2^min (Int.toNat 1) 64)) 65535=2*h % 65536:=by
 obtain ⟨a,rfl⟩:=Int.eq_ofNat_of_zero_le hh.1;rw [show min (Int.toNat 1) 64=1 from rfl,show ((2:Int)^1)=2 from rfl,Gt (by unfold ae;omega)];have:=Nat.and_two_pow_sub_one_eq_mod (a*2) 16;rw [show ((a:Int)*2)=((a*2:Nat):Int) by omega,show (65535:Int)=((65535:Nat):Int) from rfl,lS _ _ (by omega) (by omega),show 65535=2^16 - 1 from rfl,this];omega
theorem adm {h:Int} (hh:0≤h∧h < 65536):bits .or .i64 (2*h % 65536) 1=2*h % 65536+1:=by
 obtain ⟨a,rfl⟩:=Int.eq_ofNat_of_zero_le hh.1;have e:2*(a:Int) % 65536=((2^1*(a % 32768):Nat):Int):=by omega
 rw [e,show (1:Int)=((1:Nat):Int) from rfl,Gs _ _ (by omega) (by omega),←Nat.two_pow_add_eq_or_of_lt (by omega)];omega
theorem VQ:∀(k n:Nat),F.pop k n≤k
 | 0,_=>Nat.le_refl _
 | k+1,n=>by
   have:=VQ k (n / 2);simp only [F.pop];omega
theorem aek (h m:Int):0≤F.cb h m∧F.cb h m≤16:=by
 have:=VQ 16 (h.toNat % 2^m.toNat);unfold F.cb;omega
def Bh:bA:=[]
theorem YT (h s:Int) (m:Int):aI RT Bh Tryz.f130.results.toList 0 400 [.code (aj Tryz.f130)] ⟨ay Tryz.f130 [.agg [.int .i64 h,.int .i64 s],.c (.int .i64 m)],([]:Heap cod)⟩=
.aa ((0:Int)≤m) (
.aa (ae (IntKind.wrap .i64 (1*2^min m.toNat 64) - 1)) (
.aa (((0:Int)≤IntKind.wrap IntKind.u64 (bits BinOp.and IntKind.i64 h (IntKind.wrap .i64 (1*2^min m.toNat 64) - 1))∧IntKind.wrap IntKind.u64 (bits BinOp.and IntKind.i64 h (IntKind.wrap .i64 (1*2^min m.toNat 64) - 1)) < 65536)) (
.ret (.fin (.c (.int .i64 (Int.ofNat (F.pop 16 (IntKind.wrap IntKind.u64 (bits BinOp.and IntKind.i64 h (IntKind.wrap .i64 (1*2^min m.toNat 64) - 1))).toNat)))) [])))):=by kernel_rfl
theorem Uo (h s:Int) (m:Int) (b0:aC) (hb:b0.n=0) (h0:0≤h∧h < 65536∧0≤m∧m≤16):Sym.af Tryz.prog b0 [.code (aj Tryz.f130)] ⟨ay Tryz.f130 [.agg [.int .i64 h,.int .i64 s],.c (.int .i64 m)],([]:Heap cod)⟩ (Sym.Ends Tryz.prog Tryz.f130 0 (.c (.int .i64 (F.cb h m))) []):=by
 obtain ⟨a1,a2,a3,a4⟩:=h0;refine af.go (cfg:=RT) wY mixed Bh 400 hb (YT h s m) ?_;obtain ⟨g1,g2⟩:=Vj ⟨a1,a2⟩ ⟨a3,a4⟩;have g3:h.toNat % 2^m.toNat≤h.toNat:=Nat.mod_le _ _;rw [g2,Xb (by omega)];simp only [T.wp,bF,Int.ofNat_eq_natCast,and_true,Int.toNat_natCast];refine ⟨a3,g1,by omega,?_⟩;unfold F.cb;trivial
def Ld:aH cod:=fun args H=>match args,H with
 | [.agg [.int .i64 h,.int .i64 _],.c (.int .i64 m)],[]=>.aa ((0≤h∧h < 65536∧0≤m∧m≤16)) (.ret (.c (.int .i64 (F.cb h m)),[]))
 | _,_=>.fail
theorem J7:Sound Tryz.prog cod 130 Ld:=ax (cfg:=RT) wY mixed Tryz.func130 rfl rfl _ fun args H r news hg b0 hb=>by
 unfold Ld at hg;split at hg
 ·skip
  simp only [T.ah,T.wp,Prod.mk.injEq] at hg;obtain ⟨q0,rfl,rfl⟩:=hg;exact Uo _ _ _ b0 hb (by assumption)
 ·exact hg.elim
def IS:aQ cod:=(130,.p Ld)::Sw
def sG:aT cod:=c9 IS
theorem kF:cv Tryz.prog cod IS:=.cons J7 wY
namespace F
open Classical in
def wh (h s aa of:Int):Int:=if aa≤cb h of then 1 else if s < of then 0 else if (∃j,1≤j∧j < of∧0 < cb h (of - j)∧aa≤cb h (of - j)+j) then 0 else 2
end F
def kR:bA:=[(10,[8,4,2,3,10],2)]
theorem aac (h s:Int) (fI:Bool) (aa:Int) (of:Int):aI sG kR Tryz.f98.results.toList 0 400 [.code (aj Tryz.f98)] ⟨ay Tryz.f98 [.agg [.int .i64 h,.int .i64 s],.c (.bool fI),.c (.int .i64 aa),.c (.int .i64 of)],([]:Heap cod)⟩=
.aa ((0:Int)≤1) (
 cond (fI) (
 .aa (ae (s+1)) (
 .aa (((0:Int)≤bits BinOp.or IntKind.i64 (bits BinOp.and IntKind.i64 (IntKind.wrap .i64 (h*2^min (Int.toNat 1) 64)) 65535) 1∧(bits BinOp.or IntKind.i64 (bits BinOp.and IntKind.i64 (IntKind.wrap .i64 (h*2^min (Int.toNat 1) 64)) 65535) 1 < 65536∧((0:Int)≤of∧of≤16)))) (
 cond (decide (aa≤F.cb (bits BinOp.or IntKind.i64 (bits BinOp.and IntKind.i64 (IntKind.wrap .i64 (h*2^min (Int.toNat 1) 64)) 65535) 1) of)) (
  .ret (.fin (.aP [.agg [.int .i64 (bits BinOp.or IntKind.i64 (bits BinOp.and IntKind.i64 (IntKind.wrap .i64 (h*2^min (Int.toNat 1) 64)) 65535) 1),.int .i64 (min 16 (s+1))],.c (.int .i64 1)]) [])) (
  cond (decide (min 16 (s+1) < of)) (
   .ret (.fin (.aP [.agg [.int .i64 (bits BinOp.or IntKind.i64 (bits BinOp.and IntKind.i64 (IntKind.wrap .i64 (h*2^min (Int.toNat 1) 64)) 65535) 1),.int .i64 (min 16 (s+1))],.c (.int .i64 0)]) [])) (
   .ret (.cut (cutAt Tryz.f98 10) ⟨bc 48 [(2,.c (.int .i64 aa)),(0,.c (.int .i64 of)),(0,.c (.ptr 0 0 0)),(3,.c (.ptr 1 0 0)),(1,.c (.int .i64 1))],[.aF [.int .i64 (bits BinOp.or IntKind.i64 (bits BinOp.and IntKind.i64 (IntKind.wrap .i64 (h*2^min (Int.toNat 1) 64)) 65535) 1),.int .i64 (min 16 (s+1))] 79,.aF [.int .i64 0,.int .i64 0] 79]⟩)))))) (
 .aa (ae (s+1)) (
 .aa (((0:Int)≤bits BinOp.and IntKind.i64 (IntKind.wrap .i64 (h*2^min (Int.toNat 1) 64)) 65535∧(bits BinOp.and IntKind.i64 (IntKind.wrap .i64 (h*2^min (Int.toNat 1) 64)) 65535 < 65536∧((0:Int)≤of∧of≤16)))) (
 cond (decide (aa≤F.cb (bits BinOp.and IntKind.i64 (IntKind.wrap .i64 (h*2^min (Int.toNat 1) 64)) 65535) of)) (
  .ret (.fin (.aP [.agg [.int .i64 (bits BinOp.and IntKind.i64 (IntKind.wrap .i64 (h*2^min (Int.toNat 1) 64)) 65535),.int .i64 (min 16 (s+1))],.c (.int .i64 1)]) [])) (
  cond (decide (min 16 (s+1) < of)) (
   .ret (.fin (.aP [.agg [.int .i64 (bits BinOp.and IntKind.i64 (IntKind.wrap .i64 (h*2^min (Int.toNat 1) 64)) 65535),.int .i64 (min 16 (s+1))],.c (.int .i64 0)]) [])) (
   .ret (.cut (cutAt Tryz.f98 10) ⟨bc 48 [(2,.c (.int .i64 aa)),(0,.c (.int .i64 of)),(0,.c (.ptr 0 0 0)),(3,.c (.ptr 1 0 0)),(1,.c (.int .i64 1))],[.aF [.int .i64 (bits BinOp.and IntKind.i64 (IntKind.wrap .i64 (h*2^min (Int.toNat 1) 64)) 65535),.int .i64 (min 16 (s+1))] 79,.aF [.int .i64 0,.int .i64 0] 79]⟩))))))):=by kernel_rfl
def qj (_ _:Int) (_:Bool) (aa:Int) (of:Int) (h2 s2 k:Int):St cod:=⟨bc 48 [(2,.c (.int .i64 aa)),(0,.c (.int .i64 of)),(0,.c (.ptr 0 0 0)),(3,.c (.ptr 1 0 0)),(1,.c (.int .i64 k))],([.aF [.int .i64 h2,.int .i64 s2] 79,.aF [.int .i64 0,.int .i64 0] 79]:Heap cod)⟩
theorem HX (h s:Int) (fI:Bool) (aa:Int) (of:Int) (h2 s2 k:Int):aI sG kR Tryz.f98.results.toList 0 400 (cutAt Tryz.f98 10) (qj h s fI aa of h2 s2 k)=
 cond (decide (k < of)) (
 .aa (ae (of - k)) (
 .aa (((0:Int)≤h2∧(h2 < 65536∧((0:Int)≤of - k∧of - k≤16)))) (
 cond (decide (0 < F.cb h2 (of - k))) (
  .aa (ae (F.cb h2 (of - k)+k)) (
  cond (decide (aa≤F.cb h2 (of - k)+k)) (
   .ret (.fin (.aP [.agg [.int .i64 h2,.int .i64 s2],.c (.int .i64 0)]) [])) (
   .aa (ae (k+1)) (
   .ret (.cut (cutAt Tryz.f98 10) ⟨bc 48 [(2,.c (.int .i64 aa)),(0,.c (.int .i64 of)),(0,.c (.ptr 0 0 0)),(3,.c (.ptr 1 0 0)),(1,.c (.int .i64 (k+1)))],[.aF [.int .i64 h2,.int .i64 s2] 79,.aF [.int .i64 0,.int .i64 0] 79]⟩))))) (
  .aa (ae (k+1)) (
  .ret (.cut (cutAt Tryz.f98 10) ⟨bc 48 [(2,.c (.int .i64 aa)),(0,.c (.int .i64 of)),(0,.c (.ptr 0 0 0)),(3,.c (.ptr 1 0 0)),(1,.c (.int .i64 (k+1)))],[.aF [.int .i64 h2,.int .i64 s2] 79,.aF [.int .i64 0,.int .i64 0] 79]⟩)))))) (
 .ret (.fin (.aP [.agg [.int .i64 h2,.int .i64 s2],.c (.int .i64 2)]) [])):=by kernel_rfl
open Classical in
theorem step_loop (h s:Int) (fI:Bool) (aa of:Int) (ho:1≤of∧of≤16) (h2 s2:Int) (hh:0≤h2∧h2 < 65536) (b0:aC) (hb:b0.n=0) (w:Int):∀(m:Nat) (k:Int),1≤k→k+m=of→w=(if (∃j,k≤j∧j < of∧0 < F.cb h2 (of - j)∧aa≤F.cb h2 (of - j)+j) then 0 else 2)→
 Sym.af Tryz.prog b0 (cutAt Tryz.f98 10) (qj h s fI aa of h2 s2 k) (Sym.Ends Tryz.prog Tryz.f98 0 (.aP [.agg [.int .i64 h2,.int .i64 s2],.c (.int .i64 w)]) []):=by
 intro m
 induction m with
 | zero=>
   intro k k1 hm hw;refine af.go (cfg:=sG) kF mixed kR 400 hb (HX h s fI aa of h2 s2 k) ?_;have g1:¬k < of:=by omega
   rw [if_neg (by rintro ⟨j,g2,g3,_⟩;omega)] at hw
   simp only [T.wp,T.wp_cond,bF,decide_eq_true_eq,and_true,g1,if_false,hw]
 | succ m ih=>
   intro k k1 hm hw;refine af.go (cfg:=sG) kF mixed kR 400 hb (HX h s fI aa of h2 s2 k) ?_;have g1:k < of:=by omega
   have g2:=aek h2 (of - k)
   have split:(∃j,k≤j∧j < of∧0 < F.cb h2 (of - j)∧aa≤F.cb h2 (of - j)+j)↔(0 < F.cb h2 (of - k)∧aa≤F.cb h2 (of - k)+k)∨(∃j,k+1≤j∧j < of∧0 < F.cb h2 (of - j)∧aa≤F.cb h2 (of - j)+j):=by
    constructor
    ·rintro ⟨j,p1,p2,p3⟩;by_cases p:j=k
     ·subst p;exact .inl p3
     ·exact .inr ⟨j,by omega,p2,p3⟩
    ·rintro (p | ⟨j,p1,p2,p3⟩)
     ·exact ⟨k,by omega,g1,p⟩
     ·exact ⟨j,by omega,p2,p3⟩
   simp only [split] at hw;simp only [T.wp,T.wp_cond,bF,decide_eq_true_eq,and_true,g1,if_true];refine ⟨by unfold ae;omega,by omega,?_⟩;by_cases p1:0 < F.cb h2 (of - k)
   ·by_cases p2:aa≤F.cb h2 (of - k)+k
    ·rw [if_pos (.inl ⟨p1,p2⟩)] at hw;simp only [p1,p2,if_true,hw,and_true];unfold ae;omega
    ·simp only [p1,p2,if_true,if_false,and_false,false_or] at hw ⊢;exact ⟨by unfold ae;omega,by unfold ae;omega,ih (k+1) (by omega) (by omega) hw⟩
   ·simp only [p1,if_false,false_and,false_or] at hw ⊢;exact ⟨by unfold ae;omega,ih (k+1) (by omega) (by omega) hw⟩
theorem W0 (h s:Int) (fI:Bool) (aa:Int) (of:Int) (b0:aC) (hb:b0.n=0) (h0:0≤h∧h < 65536∧1≤of∧of≤16∧1≤aa∧aa≤of∧0≤s∧s≤16):Sym.af Tryz.prog b0 [.code (aj Tryz.f98)] ⟨ay Tryz.f98 [.agg [.int .i64 h,.int .i64 s],.c (.bool fI),.c (.int .i64 aa),.c (.int .i64 of)],([]:Heap cod)⟩ (Sym.Ends Tryz.prog Tryz.f98 0 (.aP [.agg [.int .i64 (F.nh h fI),.int .i64 (min 16 (s+1))],.c (.int .i64 (F.wh (F.nh h fI) (min 16 (s+1)) aa of))]) []):=by
 classical
 obtain ⟨a1,a2,a3,a4,a5,a6,a7,a8⟩:=h0;refine af.go (cfg:=sG) kF mixed kR 400 hb (aac h s fI aa of) ?_;rw [Z3 ⟨a1,a2⟩,adm ⟨a1,a2⟩];have e1:F.nh h true=2*h % 65536+1:=rfl;have e0:F.nh h false=2*h % 65536:=by simp [F.nh]
 have key:∀h2,0≤h2∧h2 < 65536→Sym.af Tryz.prog b0 (cutAt Tryz.f98 10) (qj h s fI aa of h2 (min 16 (s+1)) 1) (Sym.Ends Tryz.prog Tryz.f98 0 (.aP [.agg [.int .i64 h2,.int .i64 (min 16 (s+1))],.c (.int .i64 (if (∃j,1≤j∧j < of∧0 < F.cb h2 (of - j)∧aa≤F.cb h2 (of - j)+j) then 0 else 2))]) []):=fun h2 hh=>
  step_loop h s fI aa of ⟨a3,a4⟩ h2 (min 16 (s+1)) hh b0 hb _ (of - 1).toNat 1 (by omega) (by omega) rfl
 simp only [T.wp,T.wp_cond,bF,decide_eq_true_eq,and_true];refine ⟨by omega,?_⟩;cases fI
 ·rw [e0];simp only [Bool.false_eq_true,if_false];refine ⟨by unfold ae;omega,by omega,?_⟩;unfold F.wh;by_cases p1:aa≤F.cb (2*h % 65536) of
  ·simp only [p1,if_true]
  by_cases p2:min 16 (s+1) < of
  ·simp only [p1,p2,if_true,if_false]
  simp only [p1,p2,if_false];exact key _ (by omega)
 ·rw [e1];simp only [if_true];refine ⟨by unfold ae;omega,by omega,?_⟩;unfold F.wh;by_cases p1:aa≤F.cb (2*h % 65536+1) of
  ·simp only [p1,if_true]
  by_cases p2:min 16 (s+1) < of
  ·simp only [p1,p2,if_true,if_false]
  simp only [p1,p2,if_false];exact key _ (by omega)
def Lt:aH cod:=fun args H=>match args,H with
 | [.agg [.int .i64 h,.int .i64 s],.c (.bool fI),.c (.int .i64 aa),.c (.int .i64 of)],[]=>.aa ((0≤h∧h < 65536∧1≤of∧of≤16∧1≤aa∧aa≤of∧0≤s∧s≤16)) (.ret (.aP [.agg [.int .i64 (F.nh h fI),.int .i64 (min 16 (s+1))],.c (.int .i64 (F.wh (F.nh h fI) (min 16 (s+1)) aa of))],[]))
 | _,_=>.fail
theorem Mp:Sound Tryz.prog cod 98 Lt:=ax (cfg:=sG) kF mixed Tryz.func98 rfl rfl _ fun args H r news hg b0 hb=>by
 unfold Lt at hg;split at hg
 ·skip
  simp only [T.ah,T.wp,Prod.mk.injEq] at hg;obtain ⟨q0,rfl,rfl⟩:=hg;exact W0 _ _ _ _ _ b0 hb (by assumption)
 ·exact hg.elim
def SC:aQ cod:=(98,.p Lt)::IS
theorem On:cv Tryz.prog cod SC:=.cons Mp kF
namespace F
def j8 (n:Int):Nat→Int→Int→Int
 | 0,lo,_=>lo
 | k+1,lo,hi=>if lo < hi then (if (lo+(hi - lo+1) / 2)*(lo+(hi - lo+1) / 2)≤n then j8 n k (lo+(hi - lo+1) / 2) hi else j8 n k lo (lo+(hi - lo+1) / 2 - 1)) else lo
def root (n:Int):Int:=if n≤0 then 0 else j8 n 33 0 3037000499
end F
theorem qd (n:Int):∀(k:Nat) (lo hi:Int),0≤lo→lo≤hi→hi - lo < 2^k→lo*lo≤n→n < (hi+1)*(hi+1)→0≤F.j8 n k lo hi∧F.j8 n k lo hi≤hi∧F.j8 n k lo hi*F.j8 n k lo hi≤n∧n < (F.j8 n k lo hi+1)*(F.j8 n k lo hi+1)
 | 0,lo,hi,h0,h1,h2,h3,h4=>by
   simp only [F.j8];obtain rfl:hi=lo:=by simp at h2;omega
   exact ⟨h0,by omega,h3,h4⟩
 | k+1,lo,hi,h0,h1,h2,h3,h4=>by
   simp only [F.j8];rw [Int.pow_succ] at h2;generalize hp:(2:Int)^k=p at h2;split
   ·rename_i cI;split
    ·rename_i hm;have:=qd n k (lo+(hi - lo+1) / 2) hi (by omega) (by omega) (by rw [hp];omega) hm h4;exact this
    ·rename_i hm;have:=qd n k lo (lo+(hi - lo+1) / 2 - 1) h0 (by omega) (by rw [hp];omega) h3 (by rw [show lo+(hi - lo+1) / 2 - 1+1=lo+(hi - lo+1) / 2 by omega];omega);exact ⟨this.1,by omega,this.2.2.1,this.2.2.2⟩
   ·obtain rfl:hi=lo:=by omega
    exact ⟨h0,by omega,h3,h4⟩
theorem BZ {n:Int} (h0:0≤n) (h1:n < 3037000500*3037000500):0≤F.root n∧F.root n≤3037000499∧F.root n*F.root n≤n∧n < (F.root n+1)*(F.root n+1):=by
 unfold F.root;split
 ·obtain rfl:n=0:=by omega
  simp
 ·exact qd n 33 0 3037000499 (by omega) (by omega) (by decide) (by omega) h1
def kQ:bA:=[(4,[0,4,3],0)]
theorem ZO (n:Int):aI iq kQ Tryz.f74.results.toList 0 400 [.code (aj Tryz.f74)] ⟨ay Tryz.f74 [.c (.int .i64 n)],([]:Heap cod)⟩=
 cond (decide (n≤0)) (
 .ret (.fin (.c (.int .i64 0)) [])) (
 .ret (.cut (cutAt Tryz.f74 4) ⟨bc 22 [(0,.c (.int .i64 n)),(2,.c (.int .i64 0)),(0,.c (.int .i64 3037000499))],[]⟩)):=by kernel_rfl
def Cc (n:Int) (lo hi:Int):St cod:=⟨bc 22 [(0,.c (.int .i64 n)),(2,.c (.int .i64 lo)),(0,.c (.int .i64 hi))],[]⟩
theorem NR (n:Int) (lo hi:Int):aI iq kQ Tryz.f74.results.toList 0 400 (cutAt Tryz.f74 4) (Cc n lo hi)=
 cond (decide (lo < hi)) (
 .aa (ae (hi - lo)) (
 .aa (ae (hi - lo+1)) (
 .aa ((2:Int)≠0) (
 .aa (ae (Int.tdiv (hi - lo+1) 2)) (
 .aa (ae (lo+Int.tdiv (hi - lo+1) 2)) (
 .aa (ae ((lo+Int.tdiv (hi - lo+1) 2)*(lo+Int.tdiv (hi - lo+1) 2))) (
 cond (decide ((lo+Int.tdiv (hi - lo+1) 2)*(lo+Int.tdiv (hi - lo+1) 2)≤n)) (
  .ret (.cut (cutAt Tryz.f74 4) ⟨bc 22 [(0,.c (.int .i64 n)),(2,.c (.int .i64 (lo+Int.tdiv (hi - lo+1) 2))),(0,.c (.int .i64 hi))],[]⟩)) (
  .aa (ae (lo+Int.tdiv (hi - lo+1) 2 - 1)) (
  .ret (.cut (cutAt Tryz.f74 4) ⟨bc 22 [(0,.c (.int .i64 n)),(2,.c (.int .i64 lo)),(0,.c (.int .i64 (lo+Int.tdiv (hi - lo+1) 2 - 1)))],[]⟩)))))))))) (
 .ret (.fin (.c (.int .i64 lo)) [])):=by kernel_rfl
theorem QF (n:Int) (b0:aC) (hb:b0.n=0) (u:Int):∀(m:Nat) (lo hi:Int),0≤lo→lo≤hi→hi≤3037000499→hi - lo < 2^m→u=F.j8 n m lo hi→
 Sym.af Tryz.prog b0 (cutAt Tryz.f74 4) (Cc n lo hi) (Sym.Ends Tryz.prog Tryz.f74 0 (.c (.int .i64 u)) []):=by
 intro m
 induction m with
 | zero=>
   intro lo hi h0 h1 h2 h3 hu;refine af.go (cfg:=iq) eN mixed kQ 400 hb (NR n lo hi) ?_;have h4:¬lo < hi:=by simp at h3;omega
   simp only [F.j8] at hu
   simp only [T.wp,T.wp_cond,bF,decide_eq_true_eq,and_true,h4,if_false,hu]
 | succ m ih=>
   intro lo hi h0 h1 h2 h3 hu;refine af.go (cfg:=iq) eN mixed kQ 400 hb (NR n lo hi) ?_;simp only [F.j8] at hu;rw [Int.pow_succ] at h3;generalize hp:(2:Int)^m=p at*;by_cases h4:lo < hi
   ·rw [if_pos h4] at hu;have e:(hi - lo+1).tdiv 2=(hi - lo+1) / 2:=Int.tdiv_eq_ediv_of_nonneg (by omega);have hq:=rO (x:=lo+(hi - lo+1) / 2) (a:=3037000499) (by omega);simp only [T.wp,T.wp_cond,bF,decide_eq_true_eq,and_true,h4,if_true,e];generalize akA:(hi - lo+1) / 2=q at*
    (repeat (refine ⟨(by first | rfl | trivial | assumption | omega | (unfold ae;omega) | (simp only [List.length_cons,List.length_nil];omega) | exact ⟨by omega,trivial⟩),?_⟩))
    by_cases h5:(lo+q)*(lo+q)≤n
    ·rw [if_pos h5] at hu;rw [if_pos h5];exact ih _ _ (by omega) (by omega) (by omega) (by omega) hu
    ·rw [if_neg h5] at hu;rw [if_neg h5];refine ⟨by unfold ae;omega,?_⟩;exact ih _ _ (by omega) (by omega) (by omega) (by omega) hu
   ·rw [if_neg h4] at hu;simp only [T.wp,T.wp_cond,bF,decide_eq_true_eq,and_true,h4,if_false,hu]
theorem VW (n:Int) (b0:aC) (hb:b0.n=0) (_:ae n):Sym.af Tryz.prog b0 [.code (aj Tryz.f74)] ⟨ay Tryz.f74 [.c (.int .i64 n)],([]:Heap cod)⟩ (Sym.Ends Tryz.prog Tryz.f74 0 (.c (.int .i64 (F.root n))) []):=by
 refine af.go (cfg:=iq) eN mixed kQ 400 hb (ZO n) ?_;unfold F.root;by_cases h:n≤0
 ·simp only [T.wp,T.wp_cond,bF,decide_eq_true_eq,and_true,h,if_true]
 ·simp only [T.wp,T.wp_cond,bF,decide_eq_true_eq,and_true,h,if_false];exact QF n b0 hb _ 33 0 3037000499 (by omega) (by omega) (by omega) (by decide) rfl
def Lm:aH cod:=fun args H=>match args,H with
 | [.c (.int .i64 n)],[]=>.aa ((ae n)) (.ret (.c (.int .i64 (F.root n)),[]))
 | _,_=>.fail
theorem KM:Sound Tryz.prog cod 74 Lm:=ax (cfg:=iq) eN mixed Tryz.func74 rfl rfl _ fun args H r news hg b0 hb=>by
 unfold Lm at hg;split at hg
 ·skip
  simp only [T.ah,T.wp,Prod.mk.injEq] at hg;obtain ⟨q0,rfl,rfl⟩:=hg;exact VW _ b0 hb (by assumption)
 ·exact hg.elim
def IY:aQ cod:=(74,.p Lm)::qx
def RV:aT cod:=c9 IY
theorem AS:cv Tryz.prog cod IY:=.cons KM eN
namespace F
def dup (n r:Int):Int:=if r*r < n then r+1 else r
end F
def qe:aH cod:=fun args H=>match H with
 | []=>match rd args with
   | some [[_,x,y],[_,u,v]]=>(.aa (((-1000000≤x∧x≤1000000)∧(-1000000≤y∧y≤1000000))∧((-1000000≤u∧u≤1000000)∧(-1000000≤v∧v≤1000000))) (.ret (.aP [.c (.int .i64 (F.root (F.iw x y u v))),.c (.int .i64 (F.dup (F.iw x y u v) (F.root (F.iw x y u v))))],[])))
   | _=>.fail
 | _=>.fail
theorem Al (x y u v:Int):aI RV [] Tryz.f37.results.toList ([]:Heap cod).length 400 [.code (aj Tryz.f37)] ⟨ay Tryz.f37 [.agg [.int .i64 x,.int .i64 y],.agg [.int .i64 u,.int .i64 v]],[]⟩=
 (let q0:=F.iw x y u v;
 .aa ((F.b9 x∧(F.b9 y∧(F.b9 u∧F.b9 v)))) (.aa (ae q0) (.aa (ae (F.root q0*F.root q0)) (cond (decide (F.root q0*F.root q0 < F.iw x y u v)) (.aa (ae (F.root q0+1)) (.ret (.fin (.aP [.c (.int .i64 (F.root q0)),.c (.int .i64 (F.root q0+1))]) []))) (.ret (.fin (.aP [.c (.int .i64 (F.root q0)),.c (.int .i64 (F.root q0))]) [])))))):=by kernel_rfl
theorem xS:Sound Tryz.prog cod 37 qe:=aW (cfg:=RV) AS mixed Tryz.func37 rfl rfl _ 400 fun args H r news hg=>by
 unfold qe at hg;split at hg
 ·split at hg
  ·rename_i _ x y _ u v dn;have aJ:=b8 dn;simp only [List.map,oS,ints,List.tail] at aJ;subst aJ;clear dn;rw [Al];simp only [T.ah,T.wp,Prod.mk.injEq] at hg;obtain ⟨⟨⟨h1,h2⟩,h3,h4⟩,rfl,rfl⟩:=hg;simp only [T.wp,T.wp_cond,Fin.fin.injEq,SV.c.injEq,SV.aP.injEq,List.cons.injEq,Cell.int.injEq,and_true,true_and,decide_eq_true_eq];have q1:=rO (x:=x - u) (a:=2000000) (by omega);have q2:=rO (x:=y - v) (a:=2000000) (by omega);have hf:0≤F.iw x y u v∧F.iw x y u v≤8000000000000:=by unfold F.iw;omega
   obtain ⟨r1,r2,r3,r4⟩:=BZ (n:=F.iw x y u v) (by omega) (by omega);unfold F.b9 F.dup;generalize F.iw x y u v=D at*;generalize F.root D=r at*;have r5:=jZ r
   (repeat (refine ⟨(by first | rfl | trivial | assumption | omega | (unfold ae;omega) | (simp only [List.length_cons,List.length_nil];omega) | exact ⟨by omega,trivial⟩),?_⟩))
   by_cases hc:r*r < D
   ·simp only [hc,if_true]
    (repeat (refine ⟨(by first | rfl | trivial | assumption | omega | (unfold ae;omega) | (simp only [List.length_cons,List.length_nil];omega) | exact ⟨by omega,trivial⟩),?_⟩))
    all_goals (first | trivial | omega | rfl | assumption | (unfold ae;omega) | exact ⟨rfl,rfl⟩ | exact ⟨trivial,rfl⟩)
   ·simp only [hc,if_false]
    (repeat (refine ⟨(by first | rfl | trivial | assumption | omega | (unfold ae;omega) | (simp only [List.length_cons,List.length_nil];omega) | exact ⟨by omega,trivial⟩),?_⟩))
    all_goals (first | trivial | omega | rfl | assumption | (unfold ae;omega) | exact ⟨rfl,rfl⟩ | exact ⟨trivial,rfl⟩)
  ·exact hg.elim
 ·exact hg.elim
def wM:aQ cod:=(37,.p qe)::IY
theorem Aa:cv Tryz.prog cod wM:=.cons xS AS
end
end
end Go.Proofs.YtcjagpfbhnmggaaGreatDoor
