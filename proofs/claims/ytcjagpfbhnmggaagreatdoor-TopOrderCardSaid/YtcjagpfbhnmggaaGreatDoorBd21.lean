/- Parts of the proof. -/
import Derived.Test.YtcjagpfbhnmggaaGreatDoorBd20
namespace Go.Proofs.YtcjagpfbhnmggaaGreatDoor
section
open Sym Go.RowKit
noncomputable section
set_option maxRecDepth 100000
set_option maxHeartbeats 4000000
namespace F
def Ae (x:Nat):Nat:=(atn x).getD 0
def uE (x:Nat):Prop:=(atn x).isSome=true
end F
def A5:bA:=[]
theorem XX (b:Nat):aI Cu A5 Tryz.f154.results.toList 0 400 [.code (aj Tryz.f154)] ⟨ay Tryz.f154 [.c (.raw (.float .f64 b))],([]:Heap cod)⟩=
 cond (F.iO .f64 b 0) (
 .ret (.fin (.c (.raw (Value.float .f64 b))) [])) (
 cond (F.nl .f64 b 0) (
  .aa (F.B2 b) (
  .ret (.fin (.c (.raw (Value.float .f64 (F.Hl b)))) []))) (
  .aa (F.B2 (F.nq .f64 b)) (
  .ret (.fin (.c (.raw (Value.float .f64 (F.nq .f64 (F.Hl (F.nq .f64 b)))))) [])))):=by kernel_rfl
theorem NZ {q r:Nat} (h:F.sat q=some r):F.B2 q∧F.Hl q=r:=by
 unfold F.B2 F.Hl;rw [h];exact ⟨rfl,rfl⟩
theorem SZ (b:Nat) (b0:aC) (hb:b0.n=0) (h0:F.uE b):Sym.af Tryz.prog b0 [.code (aj Tryz.f154)] ⟨ay Tryz.f154 [.c (.raw (.float .f64 b))],([]:Heap cod)⟩ (Sym.Ends Tryz.prog Tryz.f154 0 (.c (.raw (.float .f64 (F.Ae b)))) []):=by
 refine af.go (cfg:=Cu) pK mixed A5 400 hb (XX b) ?_;obtain ⟨r,hr⟩:=Option.isSome_iff_exists.1 h0
 have hF:F.Ae b=r:=by
  unfold F.Ae;rw [hr];rfl
 unfold F.atn at hr
 cases h1:Sym.F.iO .f64 b 0 with
 | true=>
   rw [if_pos h1] at hr;cases hr
   simp only [T.wp,T.wp_cond,bF,and_true,hF,if_true]
 | false=>
   rw [if_neg (by rw [h1];decide)] at hr
   cases h2:Sym.F.nl .f64 b 0 with
   | true=>
     rw [if_pos h2] at hr;have X:=NZ hr
     simp only [T.wp,T.wp_cond,bF,and_true,hF,if_true,if_false,Bool.false_eq_true,X.1,X.2]
   | false=>
     rw [if_neg (by rw [h2];decide)] at hr;obtain ⟨q,q1,rfl⟩:=Option.map_eq_some_iff.1 hr;have X:=NZ q1;simp only [T.wp,T.wp_cond,bF,and_true,hF,if_false,Bool.false_eq_true,X.1,X.2]
def KU:aH cod:=fun args H=>match args,H with
 | [.c (.raw (.float .f64 b))],[]=>.aa ((F.uE b)) (.ret (.c (.raw (.float .f64 (F.Ae b))),[]))
 | _,_=>.fail
theorem Jf:Sound Tryz.prog cod 154 KU:=ax (cfg:=Cu) pK mixed Tryz.func154 rfl rfl _ fun args H r news hg b0 hb=>by
 unfold KU at hg;split at hg
 ·skip
  simp only [T.ah,T.wp,Prod.mk.injEq] at hg;obtain ⟨q0,rfl,rfl⟩:=hg;exact SZ _ b0 hb (by assumption)
 ·exact hg.elim
def IC:aQ cod:=(154,.p KU)::CQ
def Ip:aT cod:=c9 IC
theorem sO:cv Tryz.prog cod IC:=.cons Jf pK
def xG:bA:=[]
theorem Vg (b:Nat):aI Ip xG Tryz.f137.results.toList 0 400 [.code (aj Tryz.f137)] ⟨ay Tryz.f137 [.c (.raw (.float .f64 b))],([]:Heap cod)⟩=
.aa (F.uE b) (
.ret (.fin (.c (.raw (Value.float .f64 (F.Ae b)))) [])):=by kernel_rfl
theorem PT (b:Nat) (b0:aC) (hb:b0.n=0) (h0:F.uE b):Sym.af Tryz.prog b0 [.code (aj Tryz.f137)] ⟨ay Tryz.f137 [.c (.raw (.float .f64 b))],([]:Heap cod)⟩ (Sym.Ends Tryz.prog Tryz.f137 0 (.c (.raw (.float .f64 (F.Ae b)))) []):=by
 refine af.go (cfg:=Ip) sO mixed xG 400 hb (Vg b) ?_;simp only [T.wp,bF,and_true];exact h0
def Et:aH cod:=fun args H=>match args,H with
 | [.c (.raw (.float .f64 b))],[]=>.aa ((F.uE b)) (.ret (.c (.raw (.float .f64 (F.Ae b))),[]))
 | _,_=>.fail
theorem GO:Sound Tryz.prog cod 137 Et:=ax (cfg:=Ip) sO mixed Tryz.func137 rfl rfl _ fun args H r news hg b0 hb=>by
 unfold Et at hg;split at hg
 ·skip
  simp only [T.ah,T.wp,Prod.mk.injEq] at hg;obtain ⟨q0,rfl,rfl⟩:=hg;exact PT _ b0 hb (by assumption)
 ·exact hg.elim
def qy:aQ cod:=(137,.p Et)::IC
def XE:aT cod:=c9 qy
theorem pE:cv Tryz.prog cod qy:=.cons GO sO
def Bl:bA:=[]
theorem ZT (b:Nat):aI (As qy) Bl Tryz.f135.results.toList 0 400 [.code (aj Tryz.f135)] ⟨ay Tryz.f135 [.c (.raw (.float .f64 b))],([]:Heap cod)⟩=
.ret (.fin (.c (.bool (decide (IntKind.wrap .i64 (Int.ofNat b) < 0)))) []):=by kernel_rfl
theorem WC (b:Nat) (b0:aC) (hb:b0.n=0):Sym.af Tryz.prog b0 [.code (aj Tryz.f135)] ⟨ay Tryz.f135 [.c (.raw (.float .f64 b))],([]:Heap cod)⟩ (Sym.Ends Tryz.prog Tryz.f135 0 (.c (.bool (F.Ly b))) []):=by
 refine af.go (cfg:=(As qy)) pE mixed Bl 400 hb (ZT b) ?_;unfold F.Ly;simp only [T.wp,bF,Int.ofNat_eq_natCast,and_true]
def Lp:aH cod:=fun args H=>match args,H with
 | [.c (.raw (.float .f64 b))],[]=>.ret (.c (.bool (F.Ly b)),[])
 | _,_=>.fail
theorem Lz:Sound Tryz.prog cod 135 Lp:=ax (cfg:=XE) pE mixed Tryz.func135 rfl rfl _ fun args H r news hg b0 hb=>by
 unfold Lp at hg;split at hg
 ·skip
  cases hg;exact WC _ b0 hb
 ·exact hg.elim
def I1:aQ cod:=(135,.p Lp)::qy
def Iy:aT cod:=c9 I1
theorem tc:cv Tryz.prog cod I1:=.cons Lz pE
def FT:bA:=[]
theorem abQ (a b:Nat):aI Iy FT Tryz.f136.results.toList 0 400 [.code (aj Tryz.f136)] ⟨ay Tryz.f136 [.c (.raw (.float .f64 a)),.c (.raw (.float .f64 b))],([]:Heap cod)⟩=
.ret (.fin (.c (.raw (Value.float .f64 (bits BinOp.or IntKind.u64 (bits BinOp.andNot IntKind.u64 (Int.ofNat a) 9223372036854775808) (bits BinOp.and IntKind.u64 (Int.ofNat b) 9223372036854775808)).toNat))) []):=by kernel_rfl
theorem Yl (a b:Nat) (b0:aC) (hb:b0.n=0):Sym.af Tryz.prog b0 [.code (aj Tryz.f136)] ⟨ay Tryz.f136 [.c (.raw (.float .f64 a)),.c (.raw (.float .f64 b))],([]:Heap cod)⟩ (Sym.Ends Tryz.prog Tryz.f136 0 (.c (.raw (.float .f64 (F.Xp a b)))) []):=by
 refine af.go (cfg:=Iy) tc mixed FT 400 hb (abQ a b) ?_;simp only [T.wp,bF,Int.ofNat_eq_natCast,and_true];rfl
def Wc:aH cod:=fun args H=>match args,H with
 | [.c (.raw (.float .f64 a)),.c (.raw (.float .f64 b))],[]=>.ret (.c (.raw (.float .f64 (F.Xp a b))),[])
 | _,_=>.fail
theorem OV:Sound Tryz.prog cod 136 Wc:=ax (cfg:=Iy) tc mixed Tryz.func136 rfl rfl _ fun args H r news hg b0 hb=>by
 unfold Wc at hg;split at hg
 ·skip
  cases hg;exact Yl _ _ b0 hb
 ·exact hg.elim
def R5:aQ cod:=(136,.p Wc)::I1
def RL:aT cod:=c9 R5
theorem wJ:cv Tryz.prog cod R5:=.cons OV tc
def FR:bA:=[]
theorem abG (y x:Nat):aI RL FR Tryz.f106.results.toList 0 400 [.code (aj Tryz.f106)] ⟨ay Tryz.f106 [.c (.raw (.float .f64 y)),.c (.raw (.float .f64 x))],([]:Heap cod)⟩=
 (let q1:=F.bK BinOp.quo .f64 y x;
 let q0:=F.Ae q1;
 let q2:=F.Xp 4614256656552045848 y;
 let q3:=F.Xp 4609753056924675352 y;
 cond (!F.iO .f64 y y) (.fail) (cond (!F.iO .f64 x x) (.fail) (cond (F.iO .f64 y 0) (cond (F.nl .f64 x 0||F.iO .f64 x 0) (cond (!F.Ly x) (.ret (.fin (.c (.raw (Value.float .f64 (F.Xp 0 y)))) [])) (.ret (.fin (.c (.raw (Value.float .f64 q2))) []))) (.ret (.fin (.c (.raw (Value.float .f64 q2))) []))) (cond (F.iO .f64 x 0) (.ret (.fin (.c (.raw (Value.float .f64 q3))) [])) (cond (F.nl .f64 (F.vv x) 9218868437227405311) (.fail) (cond (F.nl .f64 (F.vv y) 9218868437227405311) (.ret (.fin (.c (.raw (Value.float .f64 q3))) [])) (.aa (F.bS BinOp.quo .f64 y x) (.aa (F.uE q1) (cond (F.Dp .f64 x 0) (cond (F.Dp .f64 q0 0||F.iO .f64 q0 0) (.aa (F.bS BinOp.add .f64 q0 4614256656552045848) (.ret (.fin (.c (.raw (Value.float .f64 (F.bK BinOp.add .f64 q0 4614256656552045848)))) []))) (.aa (F.bS BinOp.sub .f64 q0 4614256656552045848) (.ret (.fin (.c (.raw (Value.float .f64 (F.bK BinOp.sub .f64 q0 4614256656552045848)))) [])))) (.ret (.fin (.c (.raw (Value.float .f64 q0))) []))))))))))):=by kernel_rfl
theorem XW (y x:Nat) (b0:aC) (hb:b0.n=0) (h0:F.uD y x):Sym.af Tryz.prog b0 [.code (aj Tryz.f106)] ⟨ay Tryz.f106 [.c (.raw (.float .f64 y)),.c (.raw (.float .f64 x))],([]:Heap cod)⟩ (Sym.Ends Tryz.prog Tryz.f106 0 (.c (.raw (.float .f64 (F.kg y x)))) []):=by
 refine af.go (cfg:=RL) wJ mixed FR 400 hb (abG y x) ?_;obtain ⟨⟨y1,y2⟩,⟨x1,x2⟩,hs⟩:=h0;obtain ⟨r,hr⟩:=Option.isSome_iff_exists.1 hs
 have hF:F.kg y x=r:=by
  unfold F.kg;rw [hr];rfl
 unfold F.at2 at hr;simp only [T.wp,T.wp_cond,bF,and_true,Bool.not_eq_true',y1,x1,x2,y2,hF];refine ap (by decide) (ap (by decide) ?_)
 cases c1:Sym.F.iO .f64 y 0 with
 | true=>
   rw [if_pos c1] at hr;refine aq rfl ?_
   cases c2:(Sym.F.nl .f64 x 0||Sym.F.iO .f64 x 0) with
   | true=>
     rw [c2,Bool.true_and] at hr;refine aq rfl ?_
     cases c3:F.Ly x with
     | false=>
       rw [c3,if_pos (by decide)] at hr;cases hr
       exact aq (by decide) rfl
     | true=>
       rw [c3,if_neg (by decide)] at hr;cases hr
       exact ap (by decide) rfl
   | false=>
     rw [c2,Bool.false_and,if_neg (by decide)] at hr;cases hr
     exact ap (by decide) rfl
 | false=>
   rw [if_neg (by rw [c1];decide)] at hr;refine ap (by decide) ?_
   cases c4:Sym.F.iO .f64 x 0 with
   | true=>
     rw [if_pos c4] at hr;cases hr
     exact aq rfl rfl
   | false=>
     rw [if_neg (by rw [c4];decide)] at hr;refine ap (by decide) (ap (by decide) (ap (by decide) ?_));obtain ⟨q0,e0,hr⟩:=Option.bind_eq_some_iff.1 hr;obtain ⟨q,e1,hr⟩:=Option.bind_eq_some_iff.1 hr;have X0:=jE e0
     have X1:F.uE q0∧F.Ae q0=q:=by
      unfold F.uE F.Ae;rw [e1];exact ⟨rfl,rfl⟩
     rw [X0.2];refine ⟨X0.1,X1.1,?_⟩;rw [X1.2]
     cases c5:Sym.F.Dp .f64 x 0 with
     | true=>
       rw [if_pos c5] at hr;refine aq rfl ?_
       cases c6:(Sym.F.Dp .f64 q 0||Sym.F.iO .f64 q 0) with
       | true=>
         rw [if_pos c6] at hr;have X2:=jE hr;refine aq rfl ⟨X2.1,?_⟩
         rw [X2.2]
       | false=>
         rw [if_neg (by rw [c6];decide)] at hr;have X2:=jE hr;refine ap (by decide) ⟨X2.1,?_⟩
         rw [X2.2]
     | false=>
       rw [if_neg (by rw [c5];decide)] at hr;cases hr;exact ap (by decide) rfl
def V9:aH cod:=fun args H=>match args,H with
 | [.c (.raw (.float .f64 y)),.c (.raw (.float .f64 x))],[]=>.aa ((F.uD y x)) (.ret (.c (.raw (.float .f64 (F.kg y x))),[]))
 | _,_=>.fail
theorem Oy:Sound Tryz.prog cod 106 V9:=ax (cfg:=RL) wJ mixed Tryz.func106 rfl rfl _ fun args H r news hg b0 hb=>by
 unfold V9 at hg;split at hg
 ·skip
  simp only [T.ah,T.wp,Prod.mk.injEq] at hg;obtain ⟨q0,rfl,rfl⟩:=hg;exact XW _ _ b0 hb (by assumption)
 ·exact hg.elim
def R1:aQ cod:=(106,.p V9)::R5
def RJ:aT cod:=c9 R1
theorem wF:cv Tryz.prog cod R1:=.cons Oy wJ
namespace F
def sk (a1 a2 b1 b2:Int):Int:=a2*b1 - a1*b2
def hk (g k:Int):Int:=if k.tmod 2=1 then norm (g - k) else norm (g+k)
def Zw (x y g:Int):Nat→Int→Int
 | 0,_=>0
 | m+1,k=>if 0≤sk (cp (hk g k)) (cx (hk g k)) x y∧0 < sk x y (cp (hk g k+1)) (cx (hk g k+1))∧0 < cp (hk g k)*x+cx (hk g k)*y then (if sk (cp (hk g k)) (cx (hk g k)) x y≤sk x y (cp (hk g k+1)) (cx (hk g k+1)) then hk g k else norm (hk g k+1)) else Zw x y g m (k+1)
def agY (x y:Int):Nat:=kg (Sym.F.gm .f64 x) (Sym.F.gm .f64 y)
def aaN (x y:Int):Int:=Sym.F.EV .f64 (Sym.F.Pa .down (Sym.F.bK .quo .f64 (Sym.F.aG .f64 (agY x y) 4656722014701092864) 4614256656552045848)) .i64
def qF (x y:Int):Int:=Zw x y (aaN x y) 4096 0
end F
theorem aeR (g k:Int):0≤F.hk g k∧F.hk g k < 4096:=by
 unfold F.hk;split
 ·exact iS _
 ·exact iS _
theorem Vv (x y g:Int):∀(m:Nat) (k:Int),0≤F.Zw x y g m k∧F.Zw x y g m k < 4096
 | 0,_=>by unfold F.Zw;omega
 | m+1,k=>by
   unfold F.Zw;split
   ·split
    ·exact aeR g k
    ·exact iS _
   ·exact Vv x y g m (k+1)
theorem SU (x y:Int):0≤F.qF x y∧F.qF x y < 4096:=Vv x y _ _ _
theorem oz {s v:Int} (h: -16384≤s∧s≤16384) (k: -2000000≤v∧v≤2000000): -32768000000≤s*v∧s*v≤32768000000:=by
 have:=dP (x:=s) (y:=v) (a:=16384) (b:=2000000) (by omega) (by omega);omega
def uM:bA:=[]
theorem PS (y x:Nat):aI RJ uM Tryz.f76.results.toList 0 400 [.code (aj Tryz.f76)] ⟨ay Tryz.f76 [.c (.raw (.float .f64 y)),.c (.raw (.float .f64 x))],([]:Heap cod)⟩=
.aa (F.uD y x) (
.ret (.fin (.c (.raw (Value.float .f64 (F.kg y x)))) [])):=by kernel_rfl
theorem Kr (y x:Nat) (b0:aC) (hb:b0.n=0) (h0:F.uD y x):Sym.af Tryz.prog b0 [.code (aj Tryz.f76)] ⟨ay Tryz.f76 [.c (.raw (.float .f64 y)),.c (.raw (.float .f64 x))],([]:Heap cod)⟩ (Sym.Ends Tryz.prog Tryz.f76 0 (.c (.raw (.float .f64 (F.kg y x)))) []):=by
 refine af.go (cfg:=RJ) wF mixed uM 400 hb (PS y x) ?_;simp only [T.wp,bF,and_true];exact h0
def yY:aH cod:=fun args H=>match args,H with
 | [.c (.raw (.float .f64 y)),.c (.raw (.float .f64 x))],[]=>.aa ((F.uD y x)) (.ret (.c (.raw (.float .f64 (F.kg y x))),[]))
 | _,_=>.fail
theorem DM:Sound Tryz.prog cod 76 yY:=ax (cfg:=RJ) wF mixed Tryz.func76 rfl rfl _ fun args H r news hg b0 hb=>by
 unfold yY at hg;split at hg
 ·skip
  simp only [T.ah,T.wp,Prod.mk.injEq] at hg;obtain ⟨q0,rfl,rfl⟩:=hg;exact Kr _ _ b0 hb (by assumption)
 ·exact hg.elim
def wT:aQ cod:=(76,.p yY)::R1
def wA:aT cod:=c9 wT
theorem mL:cv Tryz.prog cod wT:=.cons DM wF
def Bo:bA:=[]
theorem aat (h:Int):aI wA Bo Tryz.f78.results.toList 0 400 [.code (aj Tryz.f78)] ⟨ay Tryz.f78 [.c (.int .i64 h)],([]:Heap cod)⟩=
.ret (.fin (.agg [.int .i64 (F.cp h),.int .i64 (F.cx h)]) []):=by kernel_rfl
theorem Xe (h:Int) (b0:aC) (hb:b0.n=0) (_: -100000≤h∧h≤100000):Sym.af Tryz.prog b0 [.code (aj Tryz.f78)] ⟨ay Tryz.f78 [.c (.int .i64 h)],([]:Heap cod)⟩ (Sym.Ends Tryz.prog Tryz.f78 0 (.agg [.int .i64 (F.cp h),.int .i64 (F.cx h)]) []):=by
 refine af.go (cfg:=wA) mL mixed Bo 400 hb (aat h) ?_;simp only [T.wp,bF,and_true]
def Lw:aH cod:=fun args H=>match args,H with
 | [.c (.int .i64 h)],[]=>.aa ((-100000≤h∧h≤100000)) (.ret (.agg [.int .i64 (F.cp h),.int .i64 (F.cx h)],[]))
 | _,_=>.fail
theorem MA:Sound Tryz.prog cod 78 Lw:=ax (cfg:=wA) mL mixed Tryz.func78 rfl rfl _ fun args H r news hg b0 hb=>by
 unfold Lw at hg;split at hg
 ·skip
  simp only [T.ah,T.wp,Prod.mk.injEq] at hg;obtain ⟨q0,rfl,rfl⟩:=hg;exact Xe _ b0 hb (by assumption)
 ·exact hg.elim
def I7:aQ cod:=(78,.p Lw)::wT
def Iz:aT cod:=c9 I7
theorem te:cv Tryz.prog cod I7:=.cons MA mL
def xA:bA:=[]
theorem TA (a1 a2:Int) (b1 b2:Int):aI Iz xA Tryz.f79.results.toList 0 400 [.code (aj Tryz.f79)] ⟨ay Tryz.f79 [.agg [.int .i64 a1,.int .i64 a2],.agg [.int .i64 b1,.int .i64 b2]],([]:Heap cod)⟩=
.aa (ae (a2*b1)) (
.aa (ae (a1*b2)) (
.aa (ae (a2*b1 - a1*b2)) (
.ret (.fin (.c (.int .i64 (a2*b1 - a1*b2))) [])))):=by kernel_rfl
theorem OX (a1 a2:Int) (b1 b2:Int) (b0:aC) (hb:b0.n=0) (h0:ae (a2*b1)∧ae (a1*b2)∧ae (a2*b1 - a1*b2)):Sym.af Tryz.prog b0 [.code (aj Tryz.f79)] ⟨ay Tryz.f79 [.agg [.int .i64 a1,.int .i64 a2],.agg [.int .i64 b1,.int .i64 b2]],([]:Heap cod)⟩ (Sym.Ends Tryz.prog Tryz.f79 0 (.c (.int .i64 (F.sk a1 a2 b1 b2))) []):=by
 refine af.go (cfg:=Iz) te mixed xA 400 hb (TA a1 a2 b1 b2) ?_;simp only [T.wp,bF,and_true];exact ⟨h0.1,h0.2.1,h0.2.2,rfl⟩
def Ej:aH cod:=fun args H=>match args,H with
 | [.agg [.int .i64 a1,.int .i64 a2],.agg [.int .i64 b1,.int .i64 b2]],[]=>.aa ((ae (a2*b1)∧ae (a1*b2)∧ae (a2*b1 - a1*b2))) (.ret (.c (.int .i64 (F.sk a1 a2 b1 b2)),[]))
 | _,_=>.fail
theorem FO:Sound Tryz.prog cod 79 Ej:=ax (cfg:=Iz) te mixed Tryz.func79 rfl rfl _ fun args H r news hg b0 hb=>by
 unfold Ej at hg;split at hg
 ·skip
  simp only [T.ah,T.wp,Prod.mk.injEq] at hg;obtain ⟨q0,rfl,rfl⟩:=hg;exact OX _ _ _ _ b0 hb (by assumption)
 ·exact hg.elim
def CA:aQ cod:=(79,.p Ej)::I7
def nV:aT cod:=c9 CA
theorem jq:cv Tryz.prog cod CA:=.cons FO te
def qX:bA:=[(7,[1,4,50],1)]
theorem afE (x y:Int):aI nV qX Tryz.f38.results.toList 0 400 [.code (aj Tryz.f38)] ⟨ay Tryz.f38 [.agg [.int .i64 x,.int .i64 y]],([]:Heap cod)⟩=
 (let q2:=F.kg (F.gm .f64 x) (F.gm .f64 y);
 let q0:=F.aG .f64 q2 4656722014701092864;
 let q1:=F.Pa Ieee.Toward.down (F.bK BinOp.quo .f64 q0 4614256656552045848);
 let q3:=F.rl (F.bK BinOp.quo .f64 q0 4614256656552045848);
 let q4:=F.bS BinOp.quo .f64 q0 4614256656552045848;
 let q5:=F.uD (F.gm .f64 x) (F.gm .f64 y);
 let q6:=F.bC .f64 q2 4656722014701092864;
 let q7:=F.ml .f64 q1 IntKind.i64;
 let q8:=F.EV .f64 q1 IntKind.i64;
 cond (decide (x < -2000000)) (.ret (.fin (.aP [.c (.int .i64 0),.c (.int .i64 4)]) [])) (cond (decide (2000000 < x)) (.ret (.fin (.aP [.c (.int .i64 0),.c (.int .i64 4)]) [])) (cond (decide (y < -2000000)) (.ret (.fin (.aP [.c (.int .i64 0),.c (.int .i64 4)]) [])) (cond (decide (2000000 < y)) (.ret (.fin (.aP [.c (.int .i64 0),.c (.int .i64 4)]) [])) (cond (decide (x=0)) (cond (decide (y=0)) (.ret (.fin (.aP [.c (.int .i64 0),.c (.int .i64 10)]) [])) (.aa q5 (.aa q6 (.aa q4 (.aa q3 (.aa q7 (.ret (.cut (cutAt Tryz.f38 7) ⟨bc 52 [(1,.c (.ptr 0 0 0)),(2,.c (.int .i64 q8)),(45,.c (.int .i64 0))],[.aF [.int .i64 x,.int .i64 y] 40]⟩)))))))) (.aa q5 (.aa q6 (.aa q4 (.aa q3 (.aa q7 (.ret (.cut (cutAt Tryz.f38 7) ⟨bc 52 [(1,.c (.ptr 0 0 0)),(2,.c (.int .i64 q8)),(45,.c (.int .i64 0))],[.aF [.int .i64 x,.int .i64 y] 40]⟩)))))))))))):=by kernel_rfl
def N8 (x y:Int) (g k:Int):St cod:=⟨bc 52 [(1,.c (.ptr 0 0 0)),(2,.c (.int .i64 g)),(45,.c (.int .i64 k))],[.aF [.int .i64 x,.int .i64 y] 40]⟩
theorem abc (x y:Int) (g k:Int):aI nV qX Tryz.f38.results.toList 0 400 (cutAt Tryz.f38 7) (N8 x y g k)=
 (let q0:=F.norm (g - k);
 let q1:=F.norm (g+k);
 let q2:=F.norm (g - k)+1;
 let q3:=F.norm (g+k)+1;
 let q4:av cod:=.aF [.int .i64 x,.int .i64 y] 40;
 cond (decide (k < 4096)) (.aa (ae (g+k)) (.aa ((2:Int)≠0) (cond (decide (Int.tmod k 2=1)) (.aa (ae (g - k)) (.aa (((-100000:Int)≤F.norm (g - k)∧F.norm (g - k)≤100000)) (.aa (ae q2) (.aa (((-100000:Int)≤F.norm (g - k)+1∧F.norm (g - k)+1≤100000)) (.aa ((ae (F.cx q0*x)∧(ae (F.cp q0*y)∧ae (F.cx q0*x - F.cp q0*y)))) (.aa ((ae (y*F.cp q2)∧(ae (x*F.cx q2)∧ae (y*F.cp q2 - x*F.cx q2)))) (cond (decide (0≤F.sk (F.cp q0) (F.cx q0) x y)) (cond (decide (0 < F.sk x y (F.cp q2) (F.cx q2))) (.aa (ae (F.cp q0*x)) (.aa (ae (F.cx q0*y)) (.aa (ae (F.cp q0*x+F.cx q0*y)) (cond (decide (0 < F.cp q0*x+F.cx q0*y)) (cond (decide (F.sk (F.cp q0) (F.cx q0) x y≤F.sk x y (F.cp q2) (F.cx q2))) (.ret (.fin (.aP [.c (.int .i64 q0),.c (.int .i64 0)]) [])) (.aa (ae q2) (.ret (.fin (.aP [.c (.int .i64 (F.norm q2)),.c (.int .i64 0)]) [])))) (.aa (ae (k+1)) (.ret (.cut (cutAt Tryz.f38 7) ⟨bc 52 [(1,.c (.ptr 0 0 0)),(2,.c (.int .i64 g)),(45,.c (.int .i64 (k+1)))],[q4]⟩))))))) (.aa (ae (k+1)) (.ret (.cut (cutAt Tryz.f38 7) ⟨bc 52 [(1,.c (.ptr 0 0 0)),(2,.c (.int .i64 g)),(45,.c (.int .i64 (k+1)))],[q4]⟩)))) (.aa (ae (k+1)) (.ret (.cut (cutAt Tryz.f38 7) ⟨bc 52 [(1,.c (.ptr 0 0 0)),(2,.c (.int .i64 g)),(45,.c (.int .i64 (k+1)))],[q4]⟩)))))))))) (.aa (((-100000:Int)≤F.norm (g+k)∧F.norm (g+k)≤100000)) (.aa (ae q3) (.aa (((-100000:Int)≤F.norm (g+k)+1∧F.norm (g+k)+1≤100000)) (.aa ((ae (F.cx q1*x)∧(ae (F.cp q1*y)∧ae (F.cx q1*x - F.cp q1*y)))) (.aa ((ae (y*F.cp q3)∧(ae (x*F.cx q3)∧ae (y*F.cp q3 - x*F.cx q3)))) (cond (decide (0≤F.sk (F.cp q1) (F.cx q1) x y)) (cond (decide (0 < F.sk x y (F.cp q3) (F.cx q3))) (.aa (ae (F.cp q1*x)) (.aa (ae (F.cx q1*y)) (.aa (ae (F.cp q1*x+F.cx q1*y)) (cond (decide (0 < F.cp q1*x+F.cx q1*y)) (cond (decide (F.sk (F.cp q1) (F.cx q1) x y≤F.sk x y (F.cp q3) (F.cx q3))) (.ret (.fin (.aP [.c (.int .i64 q1),.c (.int .i64 0)]) [])) (.aa (ae q3) (.ret (.fin (.aP [.c (.int .i64 (F.norm q3)),.c (.int .i64 0)]) [])))) (.aa (ae (k+1)) (.ret (.cut (cutAt Tryz.f38 7) ⟨bc 52 [(1,.c (.ptr 0 0 0)),(2,.c (.int .i64 g)),(45,.c (.int .i64 (k+1)))],[q4]⟩))))))) (.aa (ae (k+1)) (.ret (.cut (cutAt Tryz.f38 7) ⟨bc 52 [(1,.c (.ptr 0 0 0)),(2,.c (.int .i64 g)),(45,.c (.int .i64 (k+1)))],[q4]⟩)))) (.aa (ae (k+1)) (.ret (.cut (cutAt Tryz.f38 7) ⟨bc 52 [(1,.c (.ptr 0 0 0)),(2,.c (.int .i64 g)),(45,.c (.int .i64 (k+1)))],[q4]⟩)))))))))))) (.ret (.fin (.aP [.c (.int .i64 0),.c (.int .i64 0)]) []))):=by kernel_rfl
theorem NL {x y h:Int} (hx: -2000000≤x∧x≤2000000) (hy: -2000000≤y∧y≤2000000) (hh:0≤h∧h < 4096):
 (-100000≤h∧h≤100000)∧ae (h+1)∧(-100000≤h+1∧h+1≤100000)∧
 (ae (F.cx h*x)∧ae (F.cp h*y)∧ae (F.cx h*x - F.cp h*y))∧
 (ae (y*F.cp (h+1))∧ae (x*F.cx (h+1))∧ae (y*F.cp (h+1) - x*F.cx (h+1)))∧
 (ae (F.cp h*x)∧ae (F.cx h*y)∧ae (F.cp h*x+F.cx h*y)):=by
 have a1:=oz (oa h) hx;have a2:=oz (l7 h) hy;have a3:=oz (l7 (h+1)) hy;have a4:=oz (oa (h+1)) hx;have a5:=oz (l7 h) hx;have a6:=oz (oa h) hy;rw [Int.mul_comm y,Int.mul_comm x];generalize F.cx h*x=p1 at*;generalize F.cp h*y=p2 at*;generalize F.cp (h+1)*y=p3 at*;generalize F.cx (h+1)*x=p4 at*;generalize F.cp h*x=p5 at*;generalize F.cx h*y=p6 at*;unfold ae;omega
theorem afD (x y:Int) (hx: -2000000≤x∧x≤2000000) (hy: -2000000≤y∧y≤2000000) (g:Int) (hg: -4611686018427387905≤g∧g≤4611686018427387905) (b0:aC) (hb:b0.n=0) (R:Int):
 ∀(m:Nat) (k:Int),0≤k→k+m=4096→F.Zw x y g m k=R→Sym.af Tryz.prog b0 (cutAt Tryz.f38 7) (N8 x y g k) (Sym.Ends Tryz.prog Tryz.f38 0 (.aP [.c (.int .i64 R),.c (.int .i64 0)]) []):=by
 intro m
 induction m with
 | zero=>
   intro k h0 hm hR;refine af.go (cfg:=nV) jq mixed qX 400 hb (abc x y g k) ?_;simp only [T.wp,T.wp_cond,bF,decide_eq_true_eq,and_true];refine ap (by omega) ?_;rw [←hR]
   rfl
 | succ m ih=>
   intro k h0 hm hR;have nx:=ih (k+1) (by omega) (by omega);have k1:ae (g+k):=by unfold ae;omega
   have k2:ae (g - k):=by unfold ae;omega
   have k3:ae (k+1):=by unfold ae;omega
   refine af.go (cfg:=nV) jq mixed qX 400 hb (abc x y g k) ?_;simp only [T.wp,T.wp_cond,bF,decide_eq_true_eq,and_true];refine aq (by omega) ⟨k1,by decide,?_⟩
   have key:∀h:Int,F.hk g k=h→0≤h∧h < 4096→(0≤F.sk (F.cp h) (F.cx h) x y∧0 < F.sk x y (F.cp (h+1)) (F.cx (h+1))∧0 < F.cp h*x+F.cx h*y→(if F.sk (F.cp h) (F.cx h) x y≤F.sk x y (F.cp (h+1)) (F.cx (h+1)) then h else F.norm (h+1))=R)∧
    (¬(0≤F.sk (F.cp h) (F.cx h) x y∧0 < F.sk x y (F.cp (h+1)) (F.cx (h+1))∧0 < F.cp h*x+F.cx h*y)→F.Zw x y g m (k+1)=R):=by
    intro h hh hb;unfold F.Zw at hR;rw [hh] at hR;constructor
    ·intro c;rw [if_pos c] at hR;exact hR
    ·intro c;rw [if_neg c] at hR;exact hR
   by_cases c1:k.tmod 2=1
   ·have hh:F.hk g k=F.norm (g - k):=by unfold F.hk;rw [if_pos c1]
    have Uf:=iS (g - k);obtain ⟨r1,r2⟩:=key _ hh Uf;refine aq c1 ⟨k2,?_⟩;generalize F.norm (g - k)=h at*;obtain ⟨n1,n2,n3,n4,n5,n6,n7,n8⟩:=NL hx hy Uf;refine ⟨n1,n2,n3,n4,n5,?_⟩;by_cases d1:0≤F.sk (F.cp h) (F.cx h) x y
    ·refine aq d1 ?_;by_cases d2:0 < F.sk x y (F.cp (h+1)) (F.cx (h+1))
     ·refine aq d2 ⟨n6,n7,n8,?_⟩;by_cases d3:0 < F.cp h*x+F.cx h*y
      ·have e:=r1 ⟨d1,d2,d3⟩;refine aq d3 ?_;by_cases d4:F.sk (F.cp h) (F.cx h) x y≤F.sk x y (F.cp (h+1)) (F.cx (h+1))
       ·rw [if_pos d4] at e;rw [←e];exact aq d4 rfl
       ·rw [if_neg d4] at e;rw [←e];exact ap d4 ⟨n2,rfl⟩
      ·exact ap d3 ⟨k3,nx (r2 fun q=>d3 q.2.2)⟩
     ·exact ap d2 ⟨k3,nx (r2 fun q=>d2 q.2.1)⟩
    ·exact ap d1 ⟨k3,nx (r2 fun q=>d1 q.1)⟩
   ·have hh:F.hk g k=F.norm (g+k):=by unfold F.hk;rw [if_neg c1]
    have Uf:=iS (g+k);obtain ⟨r1,r2⟩:=key _ hh Uf;refine ap c1 ?_;generalize F.norm (g+k)=h at*;obtain ⟨n1,n2,n3,n4,n5,n6,n7,n8⟩:=NL hx hy Uf;refine ⟨n1,n2,n3,n4,n5,?_⟩;by_cases d1:0≤F.sk (F.cp h) (F.cx h) x y
    ·refine aq d1 ?_;by_cases d2:0 < F.sk x y (F.cp (h+1)) (F.cx (h+1))
     ·refine aq d2 ⟨n6,n7,n8,?_⟩;by_cases d3:0 < F.cp h*x+F.cx h*y
      ·have e:=r1 ⟨d1,d2,d3⟩;refine aq d3 ?_;by_cases d4:F.sk (F.cp h) (F.cx h) x y≤F.sk x y (F.cp (h+1)) (F.cx (h+1))
       ·rw [if_pos d4] at e;rw [←e];exact aq d4 rfl
       ·rw [if_neg d4] at e;rw [←e];exact ap d4 ⟨n2,rfl⟩
      ·exact ap d3 ⟨k3,nx (r2 fun q=>d3 q.2.2)⟩
     ·exact ap d2 ⟨k3,nx (r2 fun q=>d2 q.2.1)⟩
    ·exact ap d1 ⟨k3,nx (r2 fun q=>d1 q.1)⟩
theorem adh (x y:Int) (b0:aC) (hb:b0.n=0) (h0:(-2000000≤x∧x≤2000000)∧(-2000000≤y∧y≤2000000)) (h1:¬(x=0∧y=0)):Sym.af Tryz.prog b0 [.code (aj Tryz.f38)] ⟨ay Tryz.f38 [.agg [.int .i64 x,.int .i64 y]],([]:Heap cod)⟩ (Sym.Ends Tryz.prog Tryz.f38 0 (.aP [.c (.int .i64 (F.qF x y)),.c (.int .i64 0)]) []):=by
 obtain ⟨hx,hy⟩:=h0;refine af.go (cfg:=nV) jq mixed qX 400 hb (afE x y) ?_;have hX:x.natAbs≤2^21:=by rw [show (2:Nat)^21=2097152 by decide];omega
 have hY:y.natAbs≤2^21:=by rw [show (2:Nat)^21=2097152 by decide];omega
 obtain ⟨g1,g2,g3,g4,g5,g6⟩:=Q.Ub hX hY;have run:=afD x y hx hy (F.aaN x y) g6 b0 hb (F.qF x y) 4096 0 (by omega) (by omega) rfl;simp only [T.wp,T.wp_cond,bF,decide_eq_true_eq,and_true];refine ap (by omega) (ap (by omega) (ap (by omega) (ap (by omega) ?_)));by_cases c:x=0
 ·exact aq c (ap (fun e=>h1 ⟨c,e⟩) ⟨g1,g2,g3,g4,g5,run⟩)
 ·exact ap c ⟨g1,g2,g3,g4,g5,run⟩
def adz:aH cod:=fun args H=>match args,H with
 | [.agg [.int .i64 x,.int .i64 y]],[]=>.aa (((-2000000≤x∧x≤2000000)∧(-2000000≤y∧y≤2000000))∧(¬(x=0∧y=0))) (.ret (.aP [.c (.int .i64 (F.qF x y)),.c (.int .i64 0)],[]))
 | _,_=>.fail
theorem Vx:Sound Tryz.prog cod 38 adz:=ax (cfg:=nV) jq mixed Tryz.func38 rfl rfl _ fun args H r news hg b0 hb=>by
 unfold adz at hg;split at hg
 ·skip
  simp only [T.ah,T.wp,Prod.mk.injEq] at hg;obtain ⟨⟨q0,q1⟩,rfl,rfl⟩:=hg;exact adh _ _ b0 hb (by assumption) (by assumption)
 ·exact hg.elim
def aea:aQ cod:=(38,.p adz)::CA
theorem XG:cv Tryz.prog cod aea:=.cons Vx jq
namespace F
def iw (x y u v:Int):Int:=(x - u)*(x - u)+(y - v)*(y - v)
def b9 (n:Int):Prop:=-1000000000≤n∧n≤1000000000
end F
theorem F6 {x y u v:Int} (hx:F.b9 x) (hy:F.b9 y) (hu:F.b9 u) (hv:F.b9 v):ae (x - u)∧ae (y - v)∧ae ((x - u)*(x - u))∧ae ((y - v)*(y - v))∧ae ((x - u)*(x - u)+(y - v)*(y - v)):=by
 unfold F.b9 at*;have h1:=rO (x:=x - u) (a:=2000000000) (by omega);have h2:=rO (x:=y - v) (a:=2000000000) (by omega);unfold ae;omega
def Wx:aH cod:=fun args H=>match H with
 | []=>match rd args with
   | some [[_,x,y],[_,u,v]]=>(.aa (ae (x - u)∧ae (y - v)) (.ret (.agg [.int .i64 (x - u),.int .i64 (y - v)],[])))
   | _=>.fail
 | _=>.fail
theorem W1 (x y u v:Int):aI cf [] Tryz.f39.results.toList ([]:Heap cod).length 400 [.code (aj Tryz.f39)] ⟨ay Tryz.f39 [.agg [.int .i64 x,.int .i64 y],.agg [.int .i64 u,.int .i64 v]],[]⟩=
.aa (ae (x - u)) (
.aa (ae (y - v)) (
.ret (.fin (.agg [.int .i64 (x - u),.int .i64 (y - v)]) []))):=by kernel_rfl
theorem Q8:Sound Tryz.prog cod 39 Wx:=aW (cfg:=cf) bV mixed Tryz.func39 rfl rfl _ 400 fun args H r news hg=>by
 unfold Wx at hg;split at hg
 ·split at hg
  ·rename_i _ x y _ u v dn;have aJ:=b8 dn;simp only [List.map,oS,ints,List.tail] at aJ;subst aJ;clear dn;rw [W1];simp only [T.ah,T.wp,Prod.mk.injEq] at hg;obtain ⟨⟨h1,h2⟩,rfl,rfl⟩:=hg;simp only [T.wp,and_true];simp_all
  ·exact hg.elim
 ·exact hg.elim
def SD:aQ cod:=(39,.p Wx)::iY
def aaE:aT cod:=c9 SD
theorem Fo:cv Tryz.prog cod SD:=.cons Q8 bV
def We:aH cod:=fun args H=>match H with
 | []=>match rd args with
   | some [[_,x,y],[_,u,v]]=>(.aa (ae (x*u)∧ae (y*v)∧ae (x*u+y*v)) (.ret (.c (.int .i64 (x*u+y*v)),[])))
   | _=>.fail
 | _=>.fail
theorem TH (x y u v:Int):aI aaE [] Tryz.f94.results.toList ([]:Heap cod).length 400 [.code (aj Tryz.f94)] ⟨ay Tryz.f94 [.agg [.int .i64 x,.int .i64 y],.agg [.int .i64 u,.int .i64 v]],[]⟩=
.aa (ae (x*u)) (
.aa (ae (y*v)) (
.aa (ae (x*u+y*v)) (
.ret (.fin (.c (.int .i64 (x*u+y*v))) [])))):=by kernel_rfl
theorem O1:Sound Tryz.prog cod 94 We:=aW (cfg:=aaE) Fo mixed Tryz.func94 rfl rfl _ 400 fun args H r news hg=>by
 unfold We at hg;split at hg
 ·split at hg
  ·rename_i _ x y _ u v dn;have aJ:=b8 dn;simp only [List.map,oS,ints,List.tail] at aJ;subst aJ;clear dn;rw [TH];simp only [T.ah,T.wp,Prod.mk.injEq] at hg;obtain ⟨⟨h1,h2,h3⟩,rfl,rfl⟩:=hg;simp only [T.wp,and_true];simp_all
  ·exact hg.elim
 ·exact hg.elim
def R8:aQ cod:=(94,.p We)::SD
def aaz:aT cod:=c9 R8
theorem Fe:cv Tryz.prog cod R8:=.cons O1 Fo
def zb:aH cod:=fun args H=>match H with
 | []=>match rd args with
   | some [[_,x,y],[_,u,v]]=>(.aa (F.b9 x∧F.b9 y∧F.b9 u∧F.b9 v) (.ret (.c (.int .i64 (F.iw x y u v)),[])))
   | _=>.fail
 | _=>.fail
theorem HG (x y u v:Int):aI aaz [] Tryz.f60.results.toList ([]:Heap cod).length 400 [.code (aj Tryz.f60)] ⟨ay Tryz.f60 [.agg [.int .i64 x,.int .i64 y],.agg [.int .i64 u,.int .i64 v]],[]⟩=
.aa ((ae (x - u)∧ae (y - v))) (
.aa ((ae ((x - u)*(x - u))∧(ae ((y - v)*(y - v))∧ae ((x - u)*(x - u)+(y - v)*(y - v))))) (
.ret (.fin (.c (.int .i64 ((x - u)*(x - u)+(y - v)*(y - v)))) []))):=by kernel_rfl
theorem EL:Sound Tryz.prog cod 60 zb:=aW (cfg:=aaz) Fe mixed Tryz.func60 rfl rfl _ 400 fun args H r news hg=>by
 unfold zb at hg;split at hg
 ·split at hg
  ·rename_i _ x y _ u v dn;have aJ:=b8 dn;simp only [List.map,oS,ints,List.tail] at aJ;subst aJ;clear dn;rw [HG];simp only [T.ah,T.wp,Prod.mk.injEq] at hg;obtain ⟨⟨h1,h2,h3,h4⟩,rfl,rfl⟩:=hg;simp only [T.wp,Fin.fin.injEq,SV.c.injEq,Cell.int.injEq,and_true,true_and];obtain ⟨g1,g2,g3,g4,g5⟩:=F6 h1 h2 h3 h4;exact ⟨⟨g1,g2⟩,⟨g3,g4,g5⟩,rfl⟩
  ·exact hg.elim
 ·exact hg.elim
def xf:aQ cod:=(60,.p zb)::R8
def E8:aT cod:=c9 xf
theorem uy:cv Tryz.prog cod xf:=.cons EL Fe
def zg:aH cod:=fun args H=>match H with
 | []=>match rd args with
   | some [[_,x,y],[_,u,v],[r]]=>(.aa (F.b9 x∧F.b9 y∧F.b9 u∧F.b9 v) (.ret (.c (.bool (F.de r 0 8000000&&decide (F.iw x y u v≤r*r))),[])))
   | _=>.fail
 | _=>.fail
theorem Ia (x y u v r:Int):aI E8 [] Tryz.f36.results.toList ([]:Heap cod).length 400 [.code (aj Tryz.f36)] ⟨ay Tryz.f36 [.agg [.int .i64 x,.int .i64 y],.agg [.int .i64 u,.int .i64 v],.c (.int .i64 r)],[]⟩=
 cond (decide (0≤r)) (
 cond (decide (r≤8000000)) (
  .aa ((F.b9 x∧(F.b9 y∧(F.b9 u∧F.b9 v)))) (
  .aa (ae (r*r)) (
  .ret (.fin (.c (.bool (decide (F.iw x y u v≤r*r)))) [])))) (
  .ret (.fin (.c (.bool false)) []))) (
 .ret (.fin (.c (.bool false)) [])):=by kernel_rfl
theorem ES:Sound Tryz.prog cod 36 zg:=aW (cfg:=E8) uy mixed Tryz.func36 rfl rfl _ 400 fun args H r news hg=>by
 unfold zg at hg;split at hg
 ·split at hg
  ·rename_i _ x y _ u v r dn;have aJ:=b8 dn;simp only [List.map,oS,ints,List.tail] at aJ;subst aJ;clear dn;rw [Ia];simp only [T.ah,T.wp,Prod.mk.injEq] at hg;obtain ⟨h1,rfl,rfl⟩:=hg;simp only [T.wp,T.wp_cond,Fin.fin.injEq,SV.c.injEq,Cell.bool.injEq,and_true,decide_eq_true_eq]
   have h3:0≤r→r≤8000000→ae (r*r):=fun h4 h5=>by
    have:=rO (x:=r) (a:=8000000) (by omega);unfold ae;omega
   unfold F.de
   (repeat' split)<;>simp_all<;>omega
  ·exact hg.elim
 ·exact hg.elim
def xi:aQ cod:=(36,.p zg)::xf
def Fa:aT cod:=c9 xi
theorem uA:cv Tryz.prog cod xi:=.cons ES uy
def tZ:aH cod:=fun args H=>match H with
 | []=>match rd args with
   | some [[a],[b]]=>(.aa (0 < b∧ae a) (.ret (.aP [.c (.int .i64 (a / b)),.c (.int .i64 0)],[])))
   | _=>.fail
 | _=>.fail
theorem De (a b:Int):aI Fa [] Tryz.f92.results.toList ([]:Heap cod).length 400 [.code (aj Tryz.f92)] ⟨ay Tryz.f92 [.c (.int .i64 a),.c (.int .i64 b)],[]⟩=
 (let q0:=Int.tdiv a b;
 let q1:=Int.tdiv a b - 1;
 cond (decide (b=0)) (.ret (.fin (.aP [.c (.int .i64 0),.c (.int .i64 10)]) [])) (cond (decide (a= -9223372036854775808)) (cond (decide (b= -1)) (.ret (.fin (.aP [.c (.int .i64 0),.c (.int .i64 2)]) [])) (.aa (b≠0) (.aa (ae q0) (.aa (b≠0) (cond (!decide (Int.tmod a b=0)) (cond (!decide (a < 0)==decide (b < 0)) (.aa (ae q1) (.ret (.fin (.aP [.c (.int .i64 q1),.c (.int .i64 0)]) []))) (.ret (.fin (.aP [.c (.int .i64 q0),.c (.int .i64 0)]) []))) (.ret (.fin (.aP [.c (.int .i64 q0),.c (.int .i64 0)]) []))))))) (.aa (b≠0) (.aa (ae q0) (.aa (b≠0) (cond (!decide (Int.tmod a b=0)) (cond (!decide (a < 0)==decide (b < 0)) (.aa (ae q1) (.ret (.fin (.aP [.c (.int .i64 q1),.c (.int .i64 0)]) []))) (.ret (.fin (.aP [.c (.int .i64 q0),.c (.int .i64 0)]) []))) (.ret (.fin (.aP [.c (.int .i64 q0),.c (.int .i64 0)]) [])))))))):=by kernel_rfl
theorem Am:Sound Tryz.prog cod 92 tZ:=aW (cfg:=Fa) uA mixed Tryz.func92 rfl rfl _ 400 fun args H r news hg=>by
 unfold tZ at hg;split at hg
 ·split at hg
  ·rename_i a b dn;have aJ:=b8 dn;simp only [List.map,oS] at aJ;subst aJ;clear dn;rw [De];simp only [T.ah,T.wp,Prod.mk.injEq] at hg;obtain ⟨⟨h1,h2⟩,rfl,rfl⟩:=hg;simp only [T.wp,T.wp_cond,Fin.fin.injEq,SV.c.injEq,SV.aP.injEq,List.cons.injEq,Cell.int.injEq,and_true,true_and,decide_eq_true_eq];have g1:=EP a b h1 h2;obtain ⟨g2,g3⟩:=JU a b h1 h2;have g4:b≠0:=by omega
   have g5:¬b < 0:=by omega
   have g6:¬b= -1:=by omega
   by_cases hm:a.tmod b=0
   ·have:=g3 (.inl hm)
    (repeat' split)<;>simp_all
   ·by_cases ha:a < 0
    ·have:=g2 hm ha
     (repeat' split)<;>simp_all
    ·have:=g3 (.inr (by omega))
     (repeat' split)<;>simp_all<;>omega
  ·exact hg.elim
 ·exact hg.elim
def sU:aQ cod:=(92,.p tZ)::xi
def AH:aT cod:=c9 sU
theorem qw:cv Tryz.prog cod sU:=.cons Am uA
def El:aH cod:=fun args H=>match H with
 | []=>match rd args with
   | some [[a],[b]]=>(.aa (0 < b∧ae a∧ae (-a)) (.ret (.aP [.c (.int .i64 (-(-a / b))),.c (.int .i64 0)],[])))
   | _=>.fail
 | _=>.fail
theorem JK (a b:Int):aI AH [] Tryz.f93.results.toList ([]:Heap cod).length 400 [.code (aj Tryz.f93)] ⟨ay Tryz.f93 [.c (.int .i64 a),.c (.int .i64 b)],[]⟩=
.aa (((0:Int) < b∧ae a)) (
.aa (b≠0) (
 cond (!decide (Int.tmod a b=0)) (
 .aa (ae (a / b+1)) (
 .ret (.fin (.aP [.c (.int .i64 (a / b+1)),.c (.int .i64 0)]) []))) (
 .ret (.fin (.aP [.c (.int .i64 (a / b)),.c (.int .i64 0)]) [])))):=by kernel_rfl
theorem F1:Sound Tryz.prog cod 93 El:=aW (cfg:=AH) qw mixed Tryz.func93 rfl rfl _ 400 fun args H r news hg=>by
 unfold El at hg;split at hg
 ·split at hg
  ·rename_i a b dn;have aJ:=b8 dn;simp only [List.map,oS] at aJ;subst aJ;clear dn;rw [JK];simp only [T.ah,T.wp,Prod.mk.injEq] at hg;obtain ⟨⟨h1,h2,h3⟩,rfl,rfl⟩:=hg;simp only [T.wp,T.wp_cond,Fin.fin.injEq,SV.c.injEq,SV.aP.injEq,List.cons.injEq,Cell.int.injEq,and_true,true_and];have g1:=afW h1 h2 h3;obtain ⟨g2,g3⟩:=X7 a b h1;have g4:=AB a b h1;have g5:b≠0:=by omega
   by_cases hm:a % b=0
   ·have:=g2 hm
    (repeat' split)<;>simp_all
   ·have:=g3 hm
    (repeat' split)<;>simp_all
  ·exact hg.elim
 ·exact hg.elim
def CC:aQ cod:=(93,.p El)::sU
def MJ:aT cod:=c9 CC
theorem wN:cv Tryz.prog cod CC:=.cons F1 qw
namespace F
def err (a b c d e f n:Int):Int:=if iD a b c d e f=0∧de n 0 2000000=true then e+ -(-(n*f) / 651)+ -(-n / 23170)+2 else 0
def aeq (a b c d e f n:Int):Int:=if iD a b c d e f=0 then (if de n 0 2000000 then 0 else 4) else 4
end F
theorem uf {a b c d e f:Int}:F.iD a b c d e f=0↔((0≤a∧a≤255)∧(-1000000≤b∧b≤1000000)∧(-1000000≤c∧c≤1000000)∧(1≤d∧d≤1000000)∧(1≤e∧e≤10000)∧(1≤f∧f≤100)):=by
 unfold F.iD F.cP F.de;split<;>simp_all<;>omega
theorem QR {a b c d e f:Int}:F.iD a b c d e f≠0→F.iD a b c d e f=4:=by
 unfold F.iD;split<;>simp
def y9:aH cod:=fun args H=>match H with
 | []=>match rd args with
   | some [[_,a,b,c,d,e,f],[n]]=>(.ret (.aP [.c (.int .i64 (F.err a b c d e f n)),.c (.int .i64 (F.aeq a b c d e f n))],[]))
   | _=>.fail
 | _=>.fail
theorem Hg (a b c d e f n:Int):aI MJ [] Tryz.f87.results.toList ([]:Heap cod).length 400 [.code (aj Tryz.f87)] ⟨ay Tryz.f87 [.agg [.int .i64 a,.int .i64 b,.int .i64 c,.int .i64 d,.int .i64 e,.int .i64 f],.c (.int .i64 n)],[]⟩=
 cond (!decide (F.iD a b c d e f=0)) (
 .ret (.fin (.aP [.c (.int .i64 0),.c (.int .i64 (F.iD a b c d e f))]) [])) (
 cond (F.out n 0 2000000) (
  .ret (.fin (.aP [.c (.int .i64 0),.c (.int .i64 4)]) [])) (
  .aa (ae (n*f)) (
  .aa (((0:Int) < 651∧(ae (n*f)∧ae (-(n*f))))) (
  .aa (((0:Int) < 23170∧(ae n∧ae (-n)))) (
  .aa (ae (e+ -(-(n*f) / 651))) (
  .aa (ae (e+ -(-(n*f) / 651)+ -(-n / 23170))) (
  .aa (ae (e+ -(-(n*f) / 651)+ -(-n / 23170)+2)) (
  .ret (.fin (.aP [.c (.int .i64 (e+ -(-(n*f) / 651)+ -(-n / 23170)+2)),.c (.int .i64 0)]) []))))))))):=by kernel_rfl
theorem Ed:Sound Tryz.prog cod 87 y9:=aW (cfg:=MJ) wN mixed Tryz.func87 rfl rfl _ 400 fun args H r news hg=>by
 unfold y9 at hg;split at hg
 ·split at hg
  ·rename_i _ a b c d e f n dn;have aJ:=b8 dn;simp only [List.map,oS,ints,List.tail] at aJ;subst aJ;clear dn;rw [Hg];simp only [T.ah,T.wp,Prod.mk.injEq] at hg;obtain ⟨rfl,rfl⟩:=hg;simp only [T.wp,T.wp_cond,Fin.fin.injEq,SV.c.injEq,SV.aP.injEq,List.cons.injEq,Cell.int.injEq,and_true,true_and];unfold F.err F.aeq;by_cases hs:F.iD a b c d e f=0
   ·obtain ⟨h1,h2,h3,h4,h5,h6⟩:=uf.1 hs;by_cases hp:F.de n 0 2000000=true
    ·have hn:0≤n∧n≤2000000:=by
      unfold F.de at hp;simpa using hp
     have ho:F.out n 0 2000000=false:=by
      simp [F.out];omega
     have hm:=dP (x:=n) (y:=f) (a:=2000000) (b:=100) (by omega) (by omega);generalize n*f=k at*;simp only [hs,hp,ho,and_self,if_true,decide_true,Bool.not_true,Bool.false_eq_true,if_false,and_true,ae];omega
    ·have ho:F.out n 0 2000000=true:=by
      simp [F.out,F.de] at*;omega
     simp [hs,hp,ho]
   ·simp [QR hs]
  ·exact hg.elim
 ·exact hg.elim
def mO:aQ cod:=(87,.p y9)::CC
def jl:aT cod:=c9 mO
theorem eQ:cv Tryz.prog cod mO:=.cons Ed wN
end
end
end Go.Proofs.YtcjagpfbhnmggaaGreatDoor
