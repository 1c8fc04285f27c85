/- Parts of the proof. -/
import Derived.Test.YtcjagpfbhnmggaaGreatDoorBd19
namespace Go.Proofs.YtcjagpfbhnmggaaGreatDoor
section
open Sym Go.RowKit
noncomputable section
set_option maxRecDepth 100000
set_option maxHeartbeats 4000000
namespace F
def vL (x:Nat):Nat:=(xat x).getD 0
def zW (x:Nat):Prop:=(xat x).isSome=true
end F
theorem Dm {a b r:Nat} (e:F.fb .mul a b=some r):Sym.F.bC .f64 a b∧Sym.F.aG .f64 a b=r:=by
 have e:FloatKind.f64.format.mul a b=some r:=e;unfold Sym.F.bC Sym.F.aG;rw [e];exact ⟨rfl,rfl⟩
theorem jE {op:BinOp} {a b r:Nat} (e:F.fb op a b=some r):Sym.F.bS op .f64 a b∧Sym.F.bK op .f64 a b=r:=by
 have e:floatBits op .f64 a b=some r:=e;unfold Sym.F.bS Sym.F.bK;rw [e];exact ⟨rfl,rfl⟩
theorem iF {z c r:Nat} {a:Option Nat} (h:F.Q7 z c a=some r):∃q,a=some q∧∃m,(Sym.F.bC .f64 q z∧Sym.F.aG .f64 q z=m)∧(Sym.F.bS .add .f64 m c∧Sym.F.bK .add .f64 m c=r):=by
 obtain ⟨q,h1,h2⟩:=Option.bind_eq_some_iff.1 h;obtain ⟨m,h3,h4⟩:=Option.bind_eq_some_iff.1 h2;exact ⟨q,h1,m,Dm h3,jE h4⟩
def xP:bA:=[]
theorem Xn (b:Nat):aI wE xP Tryz.f165.results.toList 0 400 [.code (aj Tryz.f165)] ⟨ay Tryz.f165 [.c (.raw (.float .f64 b))],([]:Heap cod)⟩=
 (let q0:=F.aG .f64 b b;
 let q1:=F.bK BinOp.add .f64 q0 4627690253511319612;
 let q2:=F.aG .f64 13829429103926125972 q0;
 .aa (F.bC .f64 b b) (.aa (F.bC .f64 13829429103926125972 q0) (.aa (F.bS BinOp.add .f64 q2 13848613196940411002) (.aa (F.bC .f64 (F.bK BinOp.add .f64 q2 13848613196940411002) q0) (.aa (F.bS BinOp.add .f64 (F.aG .f64 (F.bK BinOp.add .f64 q2 13848613196940411002) q0) 13858350711815275123) (.aa (F.bC .f64 (F.bK BinOp.add .f64 (F.aG .f64 (F.bK BinOp.add .f64 q2 13848613196940411002) q0) 13858350711815275123) q0) (.aa (F.bS BinOp.add .f64 (F.aG .f64 (F.bK BinOp.add .f64 (F.aG .f64 (F.bK BinOp.add .f64 q2 13848613196940411002) q0) 13858350711815275123) q0) 13861719834326579749) (.aa (F.bC .f64 (F.bK BinOp.add .f64 (F.aG .f64 (F.bK BinOp.add .f64 (F.aG .f64 (F.bK BinOp.add .f64 q2 13848613196940411002) q0) 13858350711815275123) q0) 13861719834326579749) q0) (.aa (F.bS BinOp.add .f64 (F.aG .f64 (F.bK BinOp.add .f64 (F.aG .f64 (F.bK BinOp.add .f64 (F.aG .f64 (F.bK BinOp.add .f64 q2 13848613196940411002) q0) 13858350711815275123) q0) 13861719834326579749) q0) 13857635882265799822) (.aa (F.bC .f64 q0 (F.bK BinOp.add .f64 (F.aG .f64 (F.bK BinOp.add .f64 (F.aG .f64 (F.bK BinOp.add .f64 (F.aG .f64 (F.bK BinOp.add .f64 q2 13848613196940411002) q0) 13858350711815275123) q0) 13861719834326579749) q0) 13857635882265799822)) (.aa (F.bS BinOp.add .f64 q0 4627690253511319612) (.aa (F.bC .f64 q1 q0) (.aa (F.bS BinOp.add .f64 (F.aG .f64 q1 q0) 4640010388282866213) (.aa (F.bC .f64 (F.bK BinOp.add .f64 (F.aG .f64 q1 q0) 4640010388282866213) q0) (.aa (F.bS BinOp.add .f64 (F.aG .f64 (F.bK BinOp.add .f64 (F.aG .f64 q1 q0) 4640010388282866213) q0) 4646322940342877755) (.aa (F.bC .f64 (F.bK BinOp.add .f64 (F.aG .f64 (F.bK BinOp.add .f64 (F.aG .f64 q1 q0) 4640010388282866213) q0) 4646322940342877755) q0) (.aa (F.bS BinOp.add .f64 (F.aG .f64 (F.bK BinOp.add .f64 (F.aG .f64 (F.bK BinOp.add .f64 (F.aG .f64 q1 q0) 4640010388282866213) q0) 4646322940342877755) q0) 4647246694406179306) (.aa (F.bC .f64 (F.bK BinOp.add .f64 (F.aG .f64 (F.bK BinOp.add .f64 (F.aG .f64 (F.bK BinOp.add .f64 (F.aG .f64 q1 q0) 4640010388282866213) q0) 4646322940342877755) q0) 4647246694406179306) q0) (.aa (F.bS BinOp.add .f64 (F.aG .f64 (F.bK BinOp.add .f64 (F.aG .f64 (F.bK BinOp.add .f64 (F.aG .f64 (F.bK BinOp.add .f64 (F.aG .f64 q1 q0) 4640010388282866213) q0) 4646322940342877755) q0) 4647246694406179306) q0) 4641049159275471596) (.aa (F.bS BinOp.quo .f64 (F.aG .f64 q0 (F.bK BinOp.add .f64 (F.aG .f64 (F.bK BinOp.add .f64 (F.aG .f64 (F.bK BinOp.add .f64 (F.aG .f64 (F.bK BinOp.add .f64 q2 13848613196940411002) q0) 13858350711815275123) q0) 13861719834326579749) q0) 13857635882265799822)) (F.bK BinOp.add .f64 (F.aG .f64 (F.bK BinOp.add .f64 (F.aG .f64 (F.bK BinOp.add .f64 (F.aG .f64 (F.bK BinOp.add .f64 (F.aG .f64 q1 q0) 4640010388282866213) q0) 4646322940342877755) q0) 4647246694406179306) q0) 4641049159275471596)) (.aa (F.bC .f64 b (F.bK BinOp.quo .f64 (F.aG .f64 q0 (F.bK BinOp.add .f64 (F.aG .f64 (F.bK BinOp.add .f64 (F.aG .f64 (F.bK BinOp.add .f64 (F.aG .f64 (F.bK BinOp.add .f64 q2 13848613196940411002) q0) 13858350711815275123) q0) 13861719834326579749) q0) 13857635882265799822)) (F.bK BinOp.add .f64 (F.aG .f64 (F.bK BinOp.add .f64 (F.aG .f64 (F.bK BinOp.add .f64 (F.aG .f64 (F.bK BinOp.add .f64 (F.aG .f64 q1 q0) 4640010388282866213) q0) 4646322940342877755) q0) 4647246694406179306) q0) 4641049159275471596))) (.aa (F.bS BinOp.add .f64 (F.aG .f64 b (F.bK BinOp.quo .f64 (F.aG .f64 q0 (F.bK BinOp.add .f64 (F.aG .f64 (F.bK BinOp.add .f64 (F.aG .f64 (F.bK BinOp.add .f64 (F.aG .f64 (F.bK BinOp.add .f64 q2 13848613196940411002) q0) 13858350711815275123) q0) 13861719834326579749) q0) 13857635882265799822)) (F.bK BinOp.add .f64 (F.aG .f64 (F.bK BinOp.add .f64 (F.aG .f64 (F.bK BinOp.add .f64 (F.aG .f64 (F.bK BinOp.add .f64 (F.aG .f64 q1 q0) 4640010388282866213) q0) 4646322940342877755) q0) 4647246694406179306) q0) 4641049159275471596))) b) (.ret (.fin (.c (.raw (Value.float .f64 (F.bK BinOp.add .f64 (F.aG .f64 b (F.bK BinOp.quo .f64 (F.aG .f64 q0 (F.bK BinOp.add .f64 (F.aG .f64 (F.bK BinOp.add .f64 (F.aG .f64 (F.bK BinOp.add .f64 (F.aG .f64 (F.bK BinOp.add .f64 q2 13848613196940411002) q0) 13858350711815275123) q0) 13861719834326579749) q0) 13857635882265799822)) (F.bK BinOp.add .f64 (F.aG .f64 (F.bK BinOp.add .f64 (F.aG .f64 (F.bK BinOp.add .f64 (F.aG .f64 (F.bK BinOp.add .f64 (F.aG .f64 q1 q0) 4640010388282866213) q0) 4646322940342877755) q0) 4647246694406179306) q0) 4641049159275471596))) b)))) [])))))))))))))))))))))))):=by kernel_rfl
theorem Rk (b:Nat) (b0:aC) (hb:b0.n=0) (h0:F.zW b):Sym.af Tryz.prog b0 [.code (aj Tryz.f165)] ⟨ay Tryz.f165 [.c (.raw (.float .f64 b))],([]:Heap cod)⟩ (Sym.Ends Tryz.prog Tryz.f165 0 (.c (.raw (.float .f64 (F.vL b)))) []):=by
 refine af.go (cfg:=wE) mQ mixed xP 400 hb (Xn b) ?_;obtain ⟨r,hr⟩:=Option.isSome_iff_exists.1 h0
 have hF:F.vL b=r:=by
  unfold F.vL;rw [hr];rfl
 unfold F.xat at hr;obtain ⟨z,q0,hr⟩:=Option.bind_eq_some_iff.1 hr;obtain ⟨n,hn,hr⟩:=Option.bind_eq_some_iff.1 hr;obtain ⟨t,q1,hr⟩:=Option.bind_eq_some_iff.1 hr;obtain ⟨d,hd,hr⟩:=Option.bind_eq_some_iff.1 hr;obtain ⟨q,q2,hr⟩:=Option.bind_eq_some_iff.1 hr;obtain ⟨w,q3,q4⟩:=Option.bind_eq_some_iff.1 hr;unfold F.adN at hn;obtain ⟨n3,hn,m4,u4,v4⟩:=iF hn;obtain ⟨n2,hn,m3,u3,v3⟩:=iF hn;obtain ⟨n1,hn,m2,u2,v2⟩:=iF hn;obtain ⟨n0,hn,m1,u1,v1⟩:=iF hn;cases hn;unfold F.adM at hd;obtain ⟨d3,hd,k4,x4,y4⟩:=iF hd;obtain ⟨d2,hd,k3,x3,y3⟩:=iF hd;obtain ⟨d1,hd,k2,x2,y2⟩:=iF hd;obtain ⟨d0,hd,k1,x1,y1⟩:=iF hd;have Q0:=Dm q0;have Q1:=Dm q1;have Q2:=jE q2;have Q3:=Dm q3;have Q4:=jE q4;have Y0:=jE hd;simp only [T.wp,bF,and_true,hF,Q0.1,Q0.2,Q1.1,Q1.2,Q2.1,Q2.2,Q3.1,Q3.2,Q4.1,Q4.2,Y0.1,Y0.2,u1.1,u1.2,u2.1,u2.2,u3.1,u3.2,u4.1,u4.2,v1.1,v1.2,v2.1,v2.2,v3.1,v3.2,v4.1,v4.2,x1.1,x1.2,x2.1,x2.2,x3.1,x3.2,x4.1,x4.2,y1.1,y1.2,y2.1,y2.2,y3.1,y3.2,y4.1,y4.2]
def EH:aH cod:=fun args H=>match args,H with
 | [.c (.raw (.float .f64 b))],[]=>.aa ((F.zW b)) (.ret (.c (.raw (.float .f64 (F.vL b))),[]))
 | _,_=>.fail
theorem Ic:Sound Tryz.prog cod 165 EH:=ax (cfg:=wE) mQ mixed Tryz.func165 rfl rfl _ fun args H r news hg b0 hb=>by
 unfold EH at hg;split at hg
 ·skip
  simp only [T.ah,T.wp,Prod.mk.injEq] at hg;obtain ⟨q0,rfl,rfl⟩:=hg;exact Rk _ b0 hb (by assumption)
 ·exact hg.elim
def CU:aQ cod:=(165,.p EH)::xh
def Cv:aT cod:=c9 CU
theorem pM:cv Tryz.prog cod CU:=.cons Ic mQ
end
end
section
namespace F
def sat (x:Nat):Option Nat:=
 if (Sym.F.Dp .f64 x 4604119971053405471||Sym.F.iO .f64 x 4604119971053405471)=true then xat x else
 if Sym.F.nl .f64 x 4612618744449965542=true then (fb .quo 4607182418800017408 x).bind fun q=>(xat q).bind fun r=>(fb .sub 4609753056924675352 r).bind fun s=>fb .add s 4364452196894661639 else
 (fb .sub x 4607182418800017408).bind fun n=>(fb .add x 4607182418800017408).bind fun d=>(fb .quo n d).bind fun q=>(xat q).bind fun r=>(fb .add 4605249457297304856 r).bind fun s=>fb .add s 4359948597267291143
end F
namespace Q
theorem WA {x:Nat} (hx:fin x=true) (sx:sg x=false):∃r,F.sat x=some r∧Bv r 1120:=by
 have c1:Bv 4607182418800017408 1074:=kc (by decide+kernel);unfold F.sat
 cases h1:(Sym.F.Dp .f64 x 4604119971053405471||Sym.F.iO .f64 x 4604119971053405471) with
 | true=>
   rw [if_pos rfl];have v:=YF hx (by decide+kernel) sx (by decide+kernel) h1;obtain ⟨r,e,b⟩:=MH (x:=x) (bvt9 hx v (kc (c:=4604119971053405471) (K:=1078) (by decide+kernel)))
   exact ⟨r,e,bvm9 b (by omega)⟩
 | false=>
   rw [if_neg (by decide)]
   cases h2:Sym.F.nl .f64 x 4612618744449965542 with
   | true=>
     rw [if_pos rfl];have v:=YC hx (by decide+kernel) sx (by decide+kernel) h2;have w:Lo9 1075 (vl 4612618744449965542):=lc (by decide+kernel);obtain ⟨q,e1,b1⟩:=TG (K:=1078) c1 hx (lot9 w v) (by omega) (by omega);obtain ⟨r,e2,b2⟩:=MH b1;obtain ⟨s,e3,b3⟩:=adF (K:=1119) (kc (c:=4609753056924675352) (K:=1075) (by decide+kernel)) b2 (by omega) (by omega) (by omega);obtain ⟨t,e4,b4⟩:=CW (K:=1120) b3 (kc (c:=4364452196894661639) (K:=1074) (by decide+kernel)) (by omega) (by omega) (by omega);refine ⟨t,?_,b4⟩;show (floatBits .quo .f64 4607182418800017408 x).bind _=_;rw [e1,Option.bind_some,e2,Option.bind_some];show (floatBits .sub .f64 4609753056924675352 r).bind _=_;rw [e3,Option.bind_some]
     exact e4
   | false=>
     rw [if_neg (by decide)];have v:=ab7 hx (by decide+kernel) sx (by decide+kernel) h2;have bx:Bv x 1076:=bvt9 hx v (kc (c:=4612618744449965542) (K:=1076) (by decide+kernel));obtain ⟨n,e1,b1⟩:=adF (K:=1077) bx c1 (by omega) (by omega) (by omega);obtain ⟨d,e2,b2⟩:=CW (K:=1077) bx c1 (by omega) (by omega) (by omega);obtain ⟨_,l2⟩:=abE (L:=1074) e2 hx c1.1 sx (by decide+kernel) (lc (by decide+kernel)) (by omega);obtain ⟨q,e3,b3⟩:=TG (K:=1078) b1 b2.1 l2 (by omega) (by omega);obtain ⟨r,e4,b4⟩:=MH b3;obtain ⟨s,e5,b5⟩:=CW (K:=1119) (kc (c:=4605249457297304856) (K:=1075) (by decide+kernel)) b4 (by omega) (by omega) (by omega);obtain ⟨t,e6,b6⟩:=CW (K:=1120) b5 (kc (c:=4359948597267291143) (K:=1074) (by decide+kernel)) (by omega) (by omega) (by omega);refine ⟨t,?_,b6⟩;show (floatBits .sub .f64 x 4607182418800017408).bind _=_;rw [e1,Option.bind_some];show (floatBits .add .f64 x 4607182418800017408).bind _=_;rw [e2,Option.bind_some];show (floatBits .quo .f64 n d).bind _=_;rw [e3,Option.bind_some,e4,Option.bind_some];show (floatBits .add .f64 4605249457297304856 r).bind _=_;rw [e5,Option.bind_some];exact e6
end Q
end
section
open Sym Go.RowKit
noncomputable section
set_option maxRecDepth 100000
set_option maxHeartbeats 4000000
namespace F
def Hl (x:Nat):Nat:=(sat x).getD 0
def B2 (x:Nat):Prop:=(sat x).isSome=true
end F
theorem EU {q r:Nat} (h:F.xat q=some r):F.zW q∧F.vL q=r:=by
 unfold F.zW F.vL;rw [h];exact ⟨rfl,rfl⟩
def xO:bA:=[]
theorem WB (b:Nat):aI Cv xO Tryz.f163.results.toList 0 400 [.code (aj Tryz.f163)] ⟨ay Tryz.f163 [.c (.raw (.float .f64 b))],([]:Heap cod)⟩=
 (let q0:=F.bK BinOp.sub .f64 b 4607182418800017408;
 let q1:=F.bK BinOp.add .f64 b 4607182418800017408;
 let q2:=F.bK BinOp.quo .f64 4607182418800017408 b;
 let q3:=F.bK BinOp.sub .f64 4609753056924675352 (F.vL q2);
 cond (F.Dp .f64 b 4604119971053405471||F.iO .f64 b 4604119971053405471) (.aa (F.zW b) (.ret (.fin (.c (.raw (Value.float .f64 (F.vL b)))) []))) (cond (F.nl .f64 b 4612618744449965542) (.aa (F.bS BinOp.quo .f64 4607182418800017408 b) (.aa (F.zW q2) (.aa (F.bS BinOp.sub .f64 4609753056924675352 (F.vL q2)) (.aa (F.bS BinOp.add .f64 q3 4364452196894661639) (.ret (.fin (.c (.raw (Value.float .f64 (F.bK BinOp.add .f64 q3 4364452196894661639)))) [])))))) (.aa (F.bS BinOp.sub .f64 b 4607182418800017408) (.aa (F.bS BinOp.add .f64 b 4607182418800017408) (.aa (F.bS BinOp.quo .f64 q0 q1) (.aa (F.zW (F.bK BinOp.quo .f64 q0 q1)) (.aa (F.bS BinOp.add .f64 4605249457297304856 (F.vL (F.bK BinOp.quo .f64 q0 q1))) (.aa (F.bS BinOp.add .f64 (F.bK BinOp.add .f64 4605249457297304856 (F.vL (F.bK BinOp.quo .f64 q0 q1))) 4359948597267291143) (.ret (.fin (.c (.raw (Value.float .f64 (F.bK BinOp.add .f64 (F.bK BinOp.add .f64 4605249457297304856 (F.vL (F.bK BinOp.quo .f64 q0 q1))) 4359948597267291143)))) [])))))))))):=by kernel_rfl
theorem QN (b:Nat) (b0:aC) (hb:b0.n=0) (h0:F.B2 b):Sym.af Tryz.prog b0 [.code (aj Tryz.f163)] ⟨ay Tryz.f163 [.c (.raw (.float .f64 b))],([]:Heap cod)⟩ (Sym.Ends Tryz.prog Tryz.f163 0 (.c (.raw (.float .f64 (F.Hl b)))) []):=by
 refine af.go (cfg:=Cv) pM mixed xO 400 hb (WB b) ?_;obtain ⟨r,hr⟩:=Option.isSome_iff_exists.1 h0
 have hF:F.Hl b=r:=by
  unfold F.Hl;rw [hr];rfl
 unfold F.sat at hr
 cases h1:(Sym.F.Dp .f64 b 4604119971053405471||Sym.F.iO .f64 b 4604119971053405471) with
 | true=>
   rw [if_pos h1] at hr;have X:=EU hr
   simp only [T.wp,T.wp_cond,bF,and_true,hF,if_true,X.1,X.2]
 | false=>
   rw [if_neg (by rw [h1];decide)] at hr
   cases h2:Sym.F.nl .f64 b 4612618744449965542 with
   | true=>
     rw [if_pos h2] at hr;obtain ⟨q,q1,hr⟩:=Option.bind_eq_some_iff.1 hr;obtain ⟨y,q2,hr⟩:=Option.bind_eq_some_iff.1 hr;obtain ⟨s,q3,q4⟩:=Option.bind_eq_some_iff.1 hr;have Q1:=jE q1;have X:=EU q2;have Q3:=jE q3;have Q4:=jE q4
     simp only [T.wp,T.wp_cond,bF,and_true,hF,if_true,if_false,Bool.false_eq_true,X.1,X.2,Q1.1,Q1.2,Q3.1,Q3.2,Q4.1,Q4.2]
   | false=>
     rw [if_neg (by rw [h2];decide)] at hr;obtain ⟨n,q1,hr⟩:=Option.bind_eq_some_iff.1 hr;obtain ⟨d,q2,hr⟩:=Option.bind_eq_some_iff.1 hr;obtain ⟨q,q3,hr⟩:=Option.bind_eq_some_iff.1 hr;obtain ⟨y,q4,hr⟩:=Option.bind_eq_some_iff.1 hr;obtain ⟨s,q5,q6⟩:=Option.bind_eq_some_iff.1 hr;have Q1:=jE q1;have Q2:=jE q2;have Q3:=jE q3;have X:=EU q4;have Q5:=jE q5;have Q6:=jE q6;simp only [T.wp,T.wp_cond,bF,and_true,hF,if_false,Bool.false_eq_true,X.1,X.2,Q1.1,Q1.2,Q2.1,Q2.2,Q3.1,Q3.2,Q5.1,Q5.2,Q6.1,Q6.2]
def ED:aH cod:=fun args H=>match args,H with
 | [.c (.raw (.float .f64 b))],[]=>.aa ((F.B2 b)) (.ret (.c (.raw (.float .f64 (F.Hl b))),[]))
 | _,_=>.fail
theorem Hm:Sound Tryz.prog cod 163 ED:=ax (cfg:=Cv) pM mixed Tryz.func163 rfl rfl _ fun args H r news hg b0 hb=>by
 unfold ED at hg;split at hg
 ·skip
  simp only [T.ah,T.wp,Prod.mk.injEq] at hg;obtain ⟨q0,rfl,rfl⟩:=hg;exact QN _ b0 hb (by assumption)
 ·exact hg.elim
def CQ:aQ cod:=(163,.p ED)::CU
def Cu:aT cod:=c9 CQ
theorem pK:cv Tryz.prog cod CQ:=.cons Hm pM
end
end
section
namespace Q
theorem neg_eq (b:Nat):Sym.F.nq .f64 b=b^^^9223372036854775808:=rfl
theorem GZ (b:Nat):dD (Sym.F.nq .f64 b)=dD b:=by
 rw [neg_eq];unfold dD;rw [show 9223372036854775808=2^63 by decide,Nat.xor_mod_two_pow,Nat.mod_self,Nat.xor_zero]
theorem ac9 (b:Nat):sg (Sym.F.nq .f64 b)=!sg b:=by
 rw [neg_eq];unfold sg;rw [show 9223372036854775808=2^63 by decide];have h:=Nat.testBit_xor b (2^63) 63
 have e:∀n:Nat,Nat.testBit n 63=(n / 2^63 % 2==1):=fun n=>by
  rw [Nat.testBit_eq_decide_div_mod_eq];rfl
 rw [e,e,Nat.testBit_two_pow_self] at h;rw [h];cases (b / 2^63 % 2==1)<;>rfl
theorem NJ {b:Nat} (h:fin b=true):fin (Sym.F.nq .f64 b)=true:=by
 unfold fin at h ⊢;rw [GZ];exact h
theorem ada (b:Nat):vl (Sym.F.nq .f64 b)=vl b:=by
 unfold vl mg pl;rw [GZ]
theorem ac8 {b K:Nat} (h:Bv b K):Bv (Sym.F.nq .f64 b) K:=⟨NJ h.1,by rw [ada];exact h.2⟩
theorem yI {x:Nat} (h:fin x=true):∃m:Nat,Ieee.double.order x 0=some (compare (Ieee.signed (sg x) m 0) 0):=by
 have h0:fin 0=true:=by decide
 refine ⟨mg x <<< (pl x),?_⟩;unfold Ieee.Format.order;rw [eo h,eo h0];unfold Ieee.Datum.order;dsimp only;have e0:pl 0=0:=by decide
 have m0:mg 0=0:=by decide
 have s0:sg 0=false:=by decide
 rw [e0,m0,s0];have e1:min ((pl x:Int) - 1074) (((0:Nat):Int) - 1074)= -1074:=by omega
 rw [e1,show ((pl x:Int) - 1074 - -1074).toNat=pl x by omega]
 have a:Ieee.signed (sg x) (mg x) (pl x)=Ieee.signed (sg x) (mg x <<< pl x) 0:=by
  unfold Ieee.signed;rw [Nat.shiftLeft_zero]
 have b:Ieee.signed false 0 ((((0:Nat):Int) - 1074 - -1074).toNat)=0:=by
  unfold Ieee.signed;rw [Nat.zero_shiftLeft];rfl
 rw [a,b]
theorem adp {x:Nat} (h:fin x=true) (g:Sym.F.nl .f64 x 0=true):sg x=false:=by
 obtain ⟨m,e⟩:=yI h;have e:FloatKind.f64.format.order x 0=_:=e;unfold Sym.F.nl at g;rw [e] at g
 cases hs:sg x with
 | false=>rfl
 | true=>
   rw [hs] at g;unfold Ieee.signed at g;rw [if_pos rfl,Nat.shiftLeft_zero] at g;rcases Int.lt_trichotomy (-(m:Int)) 0 with q | q | q
   ·rw [Int.compare_eq_lt.2 q] at g;cases g
   ·rw [Int.compare_eq_eq.2 q] at g;cases g
   ·omega
theorem Qb {x:Nat} (h:fin x=true) (g:Sym.F.nl .f64 x 0=false) (g2:Sym.F.iO .f64 x 0=false):sg x=true:=by
 obtain ⟨m,e⟩:=yI h;have e:FloatKind.f64.format.order x 0=_:=e;unfold Sym.F.nl at g;unfold Sym.F.iO at g2;rw [e] at g g2
 cases hs:sg x with
 | true=>rfl
 | false=>
   rw [hs] at g g2;unfold Ieee.signed at g g2;rw [if_neg (by decide),Nat.shiftLeft_zero] at g g2;rcases Int.lt_trichotomy (m:Int) 0 with q | q | q
   ·omega
   ·rw [Int.compare_eq_eq.2 q] at g2;cases g2
   ·rw [Int.compare_eq_gt.2 q] at g;cases g
end Q
namespace F
def atn (x:Nat):Option Nat:=
 if Sym.F.iO .f64 x 0=true then some x else if Sym.F.nl .f64 x 0=true then sat x else (sat (Sym.F.nq .f64 x)).map (Sym.F.nq .f64)
end F
namespace Q
theorem abH {x:Nat} (hx:fin x=true) (hv:Bv x 1120):∃r,F.atn x=some r∧Bv r 1120:=by
 unfold F.atn
 cases h1:Sym.F.iO .f64 x 0 with
 | true=>exact ⟨x,by rw [if_pos rfl],hv⟩
 | false=>
   rw [if_neg (by decide)]
   cases h2:Sym.F.nl .f64 x 0 with
   | true=>
     rw [if_pos rfl]
     exact WA hx (adp hx h2)
   | false=>
     rw [if_neg (by decide)];obtain ⟨r,e,b⟩:=WA (NJ hx) (by rw [ac9,Qb hx h2 h1];rfl);exact ⟨_,by rw [e];rfl,ac8 b⟩
end Q
namespace Q
theorem yp (n:Int):Sym.F.gm .f64 n=kv (n < 0) n.natAbs 4000:=rD (n < 0) n.natAbs 4000
theorem Zo (neg:Bool) (dv P:Nat):kv neg dv P < 18446744073709551616:=by
 have key:∀r,r≤9218868437227405312→(bif neg then 9223372036854775808+r else r) < 18446744073709551616:=fun r hr=>by
  cases neg
  ·rw [cond_false];omega
  ·rw [cond_true];omega
 unfold kv;cases Nat.beq dv 0
 ·rw [cond_false];exact key _ (Nat.min_le_right _ _)
 ·rw [cond_true];exact key 0 (Nat.zero_le _)
theorem nbc9 {neg:Bool} {g P K c:Nat} (h:g≤2^c) (e:c+P≤K+2926) (q:53≤K):Bd (kv neg g P) K:=rC (Nat.le_trans (Nat.mul_le_mul_right _ h) (by rw [←Nat.pow_add];exact dH e)) q
theorem ngc9 {neg:Bool} {g P K:Nat} (h:0 < g) (e:K+2926≤P) (q:52≤K∧K≤2096):Lo9 K (vl (kv neg g P)):=Xj (NH (Nat.le_trans (dH e) (Nat.le_mul_of_pos_left _ h)) q) q.1
theorem Kh {n:Int} (h:n.natAbs≤2^21):Bv (Sym.F.gm .f64 n) 1095:=by
 rw [yp];exact AW (nbc9 h (by omega) (by omega)) (by omega)
theorem acS {n:Int} (h:n≠0):Lo9 1074 (vl (Sym.F.gm .f64 n)):=by
 rw [yp];exact ngc9 (by omega) (by omega) (by omega)
theorem TU {b:Nat} (h:fin b=true):Sym.F.iO .f64 b b=true:=by
 unfold Sym.F.iO
 have e:FloatKind.f64.format.order b b=some (compare (Ieee.signed (sg b) (mg b) 0) (Ieee.signed (sg b) (mg b) 0)):=by
  show Ieee.double.order b b=_;unfold Ieee.Format.order;rw [eo h];unfold Ieee.Datum.order;dsimp only;rw [Int.min_self,show ((pl b:Int) - 1074 - ((pl b:Int) - 1074)).toNat=0 by omega]
 rw [e,Int.compare_eq_eq.2 rfl];rfl
theorem Yo (bE:Ieee.Toward) (neg:Bool) (n d:Nat):bE.cut neg n d≤n / 2^d+1:=by
 unfold Ieee.Toward.cut;dsimp only;rw [Nat.one_shiftLeft];by_cases hd:d≤n.log2+2
 ·rw [Nat.min_eq_left hd];exact Nat.add_le_add_left (Bool.toNat_le _) _
 ·rw [Nat.min_eq_right (by omega)];have cI:=Nat.lt_log2_self (n:=n)
  have:n / 2^(n.log2+2)=0:=by
   refine Nat.div_eq_of_lt (Nat.lt_of_lt_of_le cI ?_);exact dH (by omega)
  rw [this];exact Nat.add_le_add (Nat.zero_le _) (Bool.toNat_le _)
theorem wh1 {m p K c:Nat} (hp:c≤p) (hK:c≤K) (hv:m*2^p≤2^K):m*2^(p - c)≤2^(K - c):=by
 refine Nat.le_of_mul_le_mul_right ?_ (Nat.pow_pos (n:=c) (show 0 < 2 by decide));rw [Nat.mul_assoc,←Nat.pow_add,←Nat.pow_add,show p - c+c=p by omega,show K - c+c=K by omega];exact hv
theorem wh2 {m p K c:Nat} (hp:¬c≤p) (hK:c≤K) (hv:m*2^p≤2^K):m / 2^(c - p)≤2^(K - c):=by
 refine Nat.div_le_of_le_mul ?_;refine Nat.le_of_mul_le_mul_right ?_ (Nat.pow_pos (n:=p) (show 0 < 2 by decide));refine Nat.le_trans hv ?_;rw [←Nat.pow_add,←Nat.pow_add];exact dH (by omega)
theorem zU {b K:Nat} (bE:Ieee.Toward) (h:Bv b K) (hK:1074≤K):∃k,k≤2^(K - 1074)+1∧(FloatKind.f64.decode b).integral bE= .number (sg b) k 0:=by
 have e:FloatKind.f64.decode b= .number (sg b) (mg b) ((pl b:Int) - 1074):=eo h.1;rw [e];have hv:mg b*2^pl b≤2^K:=h.2;refine ⟨_,?_,rfl⟩;refine Nat.le_trans (Yo _ _ _ _) (Nat.add_le_add_right ?_ 1);generalize mg b=m at hv ⊢;generalize pl b=p at hv ⊢;by_cases hp:1074≤p
 ·rw [show ((p:Int) - 1074).toNat=p - 1074 by omega,show (-((p:Int) - 1074)).toNat=0 by omega,Nat.pow_zero,Nat.div_one,Nat.shiftLeft_eq];exact wh1 hp hK hv
 ·rw [show ((p:Int) - 1074).toNat=0 by omega,show (-((p:Int) - 1074)).toNat=1074 - p by omega,Nat.shiftLeft_zero];exact wh2 hp hK hv
theorem aca {b K:Nat} (bE:Ieee.Toward) (h:Bv b K) (hK:1074≤K∧K≤2000):Sym.F.rl b∧Bv (Sym.F.Pa bE b) (K+1):=by
 constructor
 ·unfold Sym.F.rl;rw [show FloatKind.f64.decode b= .number (sg b) (mg b) ((pl b:Int) - 1074) from eo h.1];trivial
 ·obtain ⟨k,h1,h2⟩:=zU bE h hK.1;unfold Sym.F.Pa;rw [h2];have e:FloatKind.f64.encode (.number (sg b) k 0)=kv (sg b) k 4000:=rD (sg b) k 4000;rw [e]
  have:k≤2^(K - 1073):=by
   have a:(2:Nat)^(K - 1073)=2^(K - 1074)+2^(K - 1074):=by
    rw [show K - 1073=(K - 1074)+1 by omega,Nat.pow_succ];omega
   have b:0 < (2:Nat)^(K - 1074):=Nat.pow_pos (by decide);omega
  exact AW (nbc9 this (by omega) (by omega)) (by omega)
theorem ab4 {b K:Nat} (h:Bv b K) (hK:1074≤K∧K≤1136):Sym.F.ml .f64 b .i64:=by
 obtain ⟨k,h1,h2⟩:=zU .zero h hK.1;unfold Sym.F.ml floatToIntVal Ieee.Datum.toInt;rw [h2];dsimp only
 have hk:k≤4611686018427387905:=by
  refine Nat.le_trans h1 (Nat.add_le_add_right ?_ 1);exact Nat.le_trans (dH (show K - 1074≤62 by omega)) (by decide)
 have hr:IntKind.i64.min≤Ieee.signed (sg b) k 0∧Ieee.signed (sg b) k 0≤IntKind.i64.max:=by
  have a1:IntKind.i64.min= -9223372036854775808:=by decide
  have a2:IntKind.i64.max=9223372036854775807:=by decide
  rw [a1,a2];unfold Ieee.signed;rw [Nat.shiftLeft_zero];cases sg b
  ·rw [if_neg (by decide)];omega
  ·rw [if_pos rfl];omega
 rw [if_pos hr];rfl
end Q
namespace F
def Ly (x:Nat):Bool:=decide (IntKind.i64.wrap (x:Int) < 0)
def Xp (a b:Nat):Nat:=(bits .or .u64 (bits .andNot .u64 (a:Int) 9223372036854775808) (bits .and .u64 (b:Int) 9223372036854775808)).toNat
def at2 (y x:Nat):Option Nat:=
 if Sym.F.iO .f64 y 0=true then (if ((Sym.F.nl .f64 x 0||Sym.F.iO .f64 x 0)&&!(Ly x))=true then some (Xp 0 y) else some (Xp 4614256656552045848 y)) else
 if Sym.F.iO .f64 x 0=true then some (Xp 4609753056924675352 y) else
 (fb .quo y x).bind fun q0=>(atn q0).bind fun q=>
 if Sym.F.Dp .f64 x 0=true then (if (Sym.F.Dp .f64 q 0||Sym.F.iO .f64 q 0)=true then fb .add q 4614256656552045848 else fb .sub q 4614256656552045848) else some q
def kg (y x:Nat):Nat:=(at2 y x).getD 0
def num (b:Nat):Prop:=Sym.F.iO .f64 b b=true∧Sym.F.nl .f64 (vv b) 9218868437227405311=false
def uD (y x:Nat):Prop:=num y∧num x∧(at2 y x).isSome=true
end F
namespace Q
theorem aao (b:Nat):bits .and .u64 (b:Int) 9223372036854775808=0∨bits .and .u64 (b:Int) 9223372036854775808=9223372036854775808:=by
 unfold bits;have e1:BitVec.ofInt IntKind.u64.bits (9223372036854775808:Int)=BitVec.ofNat 64 (2^63):=rfl
 have e2:BitVec.ofInt IntKind.u64.bits (b:Int)=BitVec.ofNat 64 b:=by
  show BitVec.ofInt 64 (b:Int)=_;exact BitVec.ofInt_natCast 64 b
 dsimp only;rw [e1,e2]
 have e3:((BitVec.ofNat 64 b)&&& (BitVec.ofNat 64 (2^63))).toNat=(BitVec.ofNat 64 b).toNat&&& 2^63:=by
  rw [BitVec.toNat_and];rfl
 have e4:(show BitVec 64 from ((BitVec.ofNat 64 b)&&& (BitVec.ofNat 64 (2^63)))).toNat=((BitVec.ofNat 64 b).toNat.testBit 63).toNat*2^63:=by
  show ((BitVec.ofNat 64 b)&&& (BitVec.ofNat 64 (2^63))).toNat=_;rw [e3];generalize (BitVec.ofNat 64 b).toNat=n;apply Nat.eq_of_testBit_eq;intro i;rw [Nat.testBit_and,Nat.testBit_two_pow];by_cases hi:63=i
  ·subst hi;rw [decide_eq_true rfl,Bool.and_true];cases n.testBit 63
   ·rw [Bool.toNat_false,Nat.zero_mul,Nat.zero_testBit]
   ·rw [Bool.toNat_true,Nat.one_mul,Nat.testBit_two_pow_self]
  ·rw [decide_eq_false hi,Bool.and_false];cases n.testBit 63
   ·rw [Bool.toNat_false,Nat.zero_mul,Nat.zero_testBit]
   ·rw [Bool.toNat_true,Nat.one_mul,Nat.testBit_two_pow,decide_eq_false hi]
 show IntKind.u64.wrap ((show BitVec 64 from ((BitVec.ofNat 64 b)&&& (BitVec.ofNat 64 (2^63)))).toNat:Int)=0∨IntKind.u64.wrap ((show BitVec 64 from ((BitVec.ofNat 64 b)&&& (BitVec.ofNat 64 (2^63)))).toNat:Int)=_;rw [e4];cases (BitVec.ofNat 64 b).toNat.testBit 63
 ·left;decide
 ·right;decide
theorem JC {c:Nat} (b:Nat) {K:Nat} (h0:Bv (bits .or .u64 (bits .andNot .u64 (c:Int) 9223372036854775808) 0).toNat K) (h1:Bv (bits .or .u64 (bits .andNot .u64 (c:Int) 9223372036854775808) 9223372036854775808).toNat K):Bv (F.Xp c b) K:=by
 unfold F.Xp;rcases aao b with e | e<;>rw [e]
 ·exact h0
 ·exact h1
theorem XR {b:Nat} (h:b < 18446744073709551616):F.vv b=dD b:=by
 unfold F.vv bits dD;have e1:BitVec.ofInt IntKind.u64.bits (9223372036854775808:Int)=BitVec.ofNat 64 (2^63):=rfl
 have e2:BitVec.ofInt IntKind.u64.bits (b:Int)=BitVec.ofNat 64 b:=by
  show BitVec.ofInt 64 (b:Int)=_;exact BitVec.ofInt_natCast 64 b
 dsimp only;rw [e1,e2]
 have e3:((BitVec.ofNat 64 b)&&& ~~~ (BitVec.ofNat 64 (2^63))).toNat=b % 9223372036854775808:=by
  rw [BitVec.toNat_and,BitVec.toNat_ofNat,Nat.mod_eq_of_lt h];have:(~~~ (BitVec.ofNat 64 (2^63))).toNat=2^63 - 1:=by decide
  rw [this,Nat.and_two_pow_sub_one_eq_mod]
 show (IntKind.u64.wrap (((BitVec.ofNat 64 b)&&& ~~~ (BitVec.ofNat 64 (2^63))).toNat:Int)).toNat=_;rw [e3];have hm:=Nat.mod_lt b (show 0 < 9223372036854775808 by decide);generalize b % 9223372036854775808=r at hm;show (Int.emod (r:Int) (2^64)).toNat=r;rw [show (2:Int)^64=18446744073709551616 by decide];show ((r:Int) % 18446744073709551616).toNat=r;omega
theorem B1 (b:Nat):dD (dD b)=dD b:=by
 unfold dD;rw [Nat.mod_mod]
theorem ade {b K:Nat} (h:Bv b K) (hK:K≤2000) (h64:b < 18446744073709551616):F.num b:=by
 refine ⟨TU h.1,?_⟩;rw [XR h64]
 have hf:fin (dD b)=true:=by
  have:=h.1;unfold fin at this ⊢;rw [B1];exact this
 have hs:sg (dD b)=false:=by
  unfold sg dD;have:=Nat.mod_lt b (show 0 < 9223372036854775808 by decide);rw [Nat.div_eq_of_lt this];rfl
 have hv:vl (dD b)=vl b:=by
  unfold vl mg pl;rw [B1]
 obtain ⟨x,y,B,h1,h2,h3⟩:=ox (a:=dD b) (b:=9218868437227405311) hf (by decide+kernel) hs (by decide+kernel);unfold Sym.F.nl;have jj:FloatKind.f64.format.order (dD b) 9218868437227405311=some (compare (x:Int) (y:Int)):=h1;rw [jj];have big:∀c,c=2000→2^c < vl 9218868437227405311:=fun c h=>by subst h;decide+kernel
 have cI:x*2^B < y*2^B:=by
  rw [h2,h3,hv];exact Nat.lt_of_le_of_lt h.2 (Nat.lt_of_le_of_lt (dH hK) (big 2000 rfl))
 have:x < y:=Nat.lt_of_mul_lt_mul_right cI;rw [Int.compare_eq_lt.2 (by omega)];rfl
theorem acT (n:Int):Sym.F.gm .f64 n < 18446744073709551616:=by
 rw [yp];exact Zo _ _ _
theorem Nt {n:Int} (h:n.natAbs≤2^21):F.num (Sym.F.gm .f64 n):=ade (Kh h) (by omega) (acT n)
theorem TV:Sym.F.iO .f64 (Sym.F.gm .f64 0) 0=true:=by decide+kernel
theorem abF {Y X:Int} (hY:Y.natAbs≤2^21) (hX:X.natAbs≤2^21):F.uD (Sym.F.gm .f64 Y) (Sym.F.gm .f64 X)∧Bv (F.kg (Sym.F.gm .f64 Y) (Sym.F.gm .f64 X)) 1121:=by
 have key:∃r,F.at2 (Sym.F.gm .f64 Y) (Sym.F.gm .f64 X)=some r∧Bv r 1121:=by
  have bY:=Kh hY;have bX:=Kh hX;have wide:∀{b K:Nat},Bv b K→K≤1121→Bv b 1121:=fun h hK=>bvm9 h hK;have cPi:Bv 4614256656552045848 1076:=kc (by decide+kernel);unfold F.at2
  cases c1:Sym.F.iO .f64 (Sym.F.gm .f64 Y) 0 with
  | true=>
    rw [if_pos rfl];by_cases c2:((Sym.F.nl .f64 (Sym.F.gm .f64 X) 0||Sym.F.iO .f64 (Sym.F.gm .f64 X) 0)&&!(F.Ly (Sym.F.gm .f64 X)))=true
    ·rw [if_pos c2];exact ⟨_,rfl,wide (JC (c:=0) (K:=1076) _ (kc (by decide+kernel)) (kc (by decide+kernel))) (by omega)⟩
    ·rw [if_neg c2]
     exact ⟨_,rfl,wide (JC (c:=4614256656552045848) (K:=1076) _ (kc (by decide+kernel)) (kc (by decide+kernel))) (by omega)⟩
  | false=>
    rw [if_neg (by decide)]
    cases c3:Sym.F.iO .f64 (Sym.F.gm .f64 X) 0 with
    | true=>
      rw [if_pos rfl]
      exact ⟨_,rfl,wide (JC (c:=4609753056924675352) (K:=1076) _ (kc (by decide+kernel)) (kc (by decide+kernel))) (by omega)⟩
    | false=>
      rw [if_neg (by decide)]
      have nX:X≠0:=fun e=>by
       rw [e,TV] at c3;cases c3
      obtain ⟨q0,e1,b1⟩:=TG (K:=1096) bY bX.1 (acS nX) (by omega) (by omega);obtain ⟨q,e2,b2⟩:=abH b1.1 (bvm9 b1 (by omega));show ∃r,((floatBits .quo .f64 (Sym.F.gm .f64 Y) (Sym.F.gm .f64 X)).bind _)=some r∧_;rw [e1,Option.bind_some,e2,Option.bind_some];by_cases c4:Sym.F.Dp .f64 (Sym.F.gm .f64 X) 0=true
      ·rw [if_pos c4];by_cases c5:(Sym.F.Dp .f64 q 0||Sym.F.iO .f64 q 0)=true
       ·rw [if_pos c5];exact CW (K:=1121) b2 cPi (by omega) (by omega) (by omega)
       ·rw [if_neg c5];exact adF (K:=1121) b2 cPi (by omega) (by omega) (by omega)
      ·rw [if_neg c4];exact ⟨q,rfl,wide b2 (by omega)⟩
 obtain ⟨r,e,b⟩:=key;refine ⟨⟨Nt hY,Nt hX,by rw [e];rfl⟩,?_⟩;unfold F.kg;rw [e];exact b
theorem Yx {b K:Nat} (h:Bv b K) (hK:1074≤K∧K≤1136): -4611686018427387905≤Sym.F.EV .f64 b .i64∧Sym.F.EV .f64 b .i64≤4611686018427387905:=by
 obtain ⟨k,h1,h2⟩:=zU .zero h hK.1;unfold Sym.F.EV floatToIntVal Ieee.Datum.toInt;rw [h2];dsimp only
 have hk:k≤4611686018427387905:=by
  refine Nat.le_trans h1 (Nat.add_le_add_right ?_ 1);exact Nat.le_trans (dH (show K - 1074≤62 by omega)) (by decide)
 have hv: -4611686018427387905≤Ieee.signed (sg b) k 0∧Ieee.signed (sg b) k 0≤4611686018427387905:=by
  unfold Ieee.signed;rw [Nat.shiftLeft_zero];cases sg b
  ·rw [if_neg (by decide)];omega
  ·rw [if_pos rfl];omega
 have a1:IntKind.i64.min= -9223372036854775808:=by decide
 have a2:IntKind.i64.max=9223372036854775807:=by decide
 have hr:IntKind.i64.min≤Ieee.signed (sg b) k 0∧Ieee.signed (sg b) k 0≤IntKind.i64.max:=by
  rw [a1,a2];omega
 rw [if_pos hr];exact hv
theorem Ub {Y X:Int} (hY:Y.natAbs≤2^21) (hX:X.natAbs≤2^21):
 F.uD (Sym.F.gm .f64 Y) (Sym.F.gm .f64 X)∧Sym.F.bC .f64 (F.kg (Sym.F.gm .f64 Y) (Sym.F.gm .f64 X)) 4656722014701092864∧
 Sym.F.bS .quo .f64 (Sym.F.aG .f64 (F.kg (Sym.F.gm .f64 Y) (Sym.F.gm .f64 X)) 4656722014701092864) 4614256656552045848∧
 Sym.F.rl (Sym.F.bK .quo .f64 (Sym.F.aG .f64 (F.kg (Sym.F.gm .f64 Y) (Sym.F.gm .f64 X)) 4656722014701092864) 4614256656552045848)∧
 Sym.F.ml .f64 (Sym.F.Pa .down (Sym.F.bK .quo .f64 (Sym.F.aG .f64 (F.kg (Sym.F.gm .f64 Y) (Sym.F.gm .f64 X)) 4656722014701092864) 4614256656552045848)) .i64∧
 (-4611686018427387905≤Sym.F.EV .f64 (Sym.F.Pa .down (Sym.F.bK .quo .f64 (Sym.F.aG .f64 (F.kg (Sym.F.gm .f64 Y) (Sym.F.gm .f64 X)) 4656722014701092864) 4614256656552045848)) .i64∧
  Sym.F.EV .f64 (Sym.F.Pa .down (Sym.F.bK .quo .f64 (Sym.F.aG .f64 (F.kg (Sym.F.gm .f64 Y) (Sym.F.gm .f64 X)) 4656722014701092864) 4614256656552045848)) .i64≤4611686018427387905):=by
 obtain ⟨ok,b⟩:=abF hY hX;obtain ⟨m,e1,b1⟩:=P8 (K:=1132) b (kc (c:=4656722014701092864) (K:=1085) (by decide+kernel)) (by omega) (by omega)
 have x1:Sym.F.bC .f64 (F.kg (Sym.F.gm .f64 Y) (Sym.F.gm .f64 X)) 4656722014701092864:=by
  have e1':FloatKind.f64.format.mul (F.kg (Sym.F.gm .f64 Y) (Sym.F.gm .f64 X)) 4656722014701092864=some m:=e1;unfold Sym.F.bC;rw [e1'];rfl
 have y1:Sym.F.aG .f64 (F.kg (Sym.F.gm .f64 Y) (Sym.F.gm .f64 X)) 4656722014701092864=m:=by
  have e1':FloatKind.f64.format.mul (F.kg (Sym.F.gm .f64 Y) (Sym.F.gm .f64 X)) 4656722014701092864=some m:=e1;unfold Sym.F.aG;rw [e1'];rfl
 rw [y1];obtain ⟨q,e2,b2⟩:=TG (K:=1132) b1 (b:=4614256656552045848) (by decide+kernel) (lc (L:=1075) (by decide+kernel)) (by omega) (by omega)
 have x2:Sym.F.bS .quo .f64 m 4614256656552045848:=by
  unfold Sym.F.bS;rw [e2];rfl
 have y2:Sym.F.bK .quo .f64 m 4614256656552045848=q:=by
  unfold Sym.F.bK;rw [e2];rfl
 rw [y2];obtain ⟨f1,f2⟩:=aca .down b2 (by omega);exact ⟨ok,x1,x2,f1,ab4 f2 (by omega),Yx f2 (by omega)⟩
end Q
end
end Go.Proofs.YtcjagpfbhnmggaaGreatDoor
