/- Parts of the proof. -/
import Derived.Test.YtcjagpfbhnmggaaGreatDoorBd16
import Derived.Test.YtcjagpfbhnmggaaGreatDoorBd17
namespace Go.Proofs.YtcjagpfbhnmggaaGreatDoor
section
open Sym Go.RowKit
noncomputable section
set_option maxRecDepth 100000
set_option maxHeartbeats 4000000
namespace F
def oR (x:Nat):Nat:=(Z4 x).getD 0
def zj (x:Nat):Prop:=Z6 x=true∧(Z4 x).isSome=true
end F
def Bf:bA:=[]
theorem Yy (b:Nat):aI cf Bf Tryz.f149.results.toList 0 400 [.code (aj Tryz.f149)] ⟨ay Tryz.f149 [.c (.raw (.float .f64 b))],([]:Heap cod)⟩=
.ret (.fin (.c (.raw (Value.float .f64 (bits BinOp.andNot IntKind.u64 (Int.ofNat b) 9223372036854775808).toNat))) []):=by kernel_rfl
theorem TR (b:Nat) (b0:aC) (hb:b0.n=0):Sym.af Tryz.prog b0 [.code (aj Tryz.f149)] ⟨ay Tryz.f149 [.c (.raw (.float .f64 b))],([]:Heap cod)⟩ (Sym.Ends Tryz.prog Tryz.f149 0 (.c (.raw (.float .f64 (F.vv b)))) []):=by
 refine af.go (cfg:=cf) bV mixed Bf 400 hb (Yy _) ?_;simp only [T.wp,bF,Int.ofNat_eq_natCast,and_true];rfl
def K8:aH cod:=fun args H=>match args,H with
 | [.c (.raw (.float .f64 b))],[]=>.ret (.c (.raw (.float .f64 (F.vv b))),[])
 | _,_=>.fail
theorem JO:Sound Tryz.prog cod 149 K8:=ax (cfg:=cf) bV mixed Tryz.func149 rfl rfl _ fun args H r news hg b0 hb=>by
 unfold K8 at hg;split at hg
 ·skip
  cases hg;exact TR _ b0 hb
 ·exact hg.elim
def IP:aQ cod:=(149,.p K8)::iY
def It:aT cod:=c9 IP
theorem sV:cv Tryz.prog cod IP:=.cons JO bV
def xE:bA:=[]
theorem UM (b:Nat):aI It xE Tryz.f131.results.toList 0 400 [.code (aj Tryz.f131)] ⟨ay Tryz.f131 [.c (.raw (.float .f64 b))],([]:Heap cod)⟩=
.ret (.fin (.c (.bool (!F.iO .f64 b b))) []):=by kernel_rfl
theorem PD (b:Nat) (b0:aC) (hb:b0.n=0):Sym.af Tryz.prog b0 [.code (aj Tryz.f131)] ⟨ay Tryz.f131 [.c (.raw (.float .f64 b))],([]:Heap cod)⟩ (Sym.Ends Tryz.prog Tryz.f131 0 (.c (.bool (!(Sym.F.iO .f64 b b)))) []):=by
 refine af.go (cfg:=It) sV mixed xE 400 hb (UM _) ?_;simp only [T.wp,bF,and_true]
def Er:aH cod:=fun args H=>match args,H with
 | [.c (.raw (.float .f64 b))],[]=>.ret (.c (.bool (!(Sym.F.iO .f64 b b))),[])
 | _,_=>.fail
theorem GB:Sound Tryz.prog cod 131 Er:=ax (cfg:=It) sV mixed Tryz.func131 rfl rfl _ fun args H r news hg b0 hb=>by
 unfold Er at hg;split at hg
 ·skip
  cases hg;exact PD _ b0 hb
 ·exact hg.elim
def CI:aQ cod:=(131,.p Er)::IP
def Co:aT cod:=c9 CI
theorem pD:cv Tryz.prog cod CI:=.cons GB sV
def xD:bA:=[]
theorem UL (b:Nat):aI Co xD Tryz.f132.results.toList 0 400 [.code (aj Tryz.f132)] ⟨ay Tryz.f132 [.c (.raw (.float .f64 b)),.c (.int .i64 0)],([]:Heap cod)⟩=
.ret (.fin (.c (.bool (F.nl .f64 (F.vv b) 9218868437227405311))) []):=by kernel_rfl
theorem PC (b:Nat) (b0:aC) (hb:b0.n=0):Sym.af Tryz.prog b0 [.code (aj Tryz.f132)] ⟨ay Tryz.f132 [.c (.raw (.float .f64 b)),.c (.int .i64 0)],([]:Heap cod)⟩ (Sym.Ends Tryz.prog Tryz.f132 0 (.c (.bool (Sym.F.nl .f64 (F.vv b) 9218868437227405311))) []):=by
 refine af.go (cfg:=Co) pD mixed xD 400 hb (UL b) ?_;simp only [T.wp,bF,and_true]
def Ep:aH cod:=fun args H=>match args,H with
 | [.c (.raw (.float .f64 b)),.c (.int .i64 0)],[]=>.ret (.c (.bool (Sym.F.nl .f64 (F.vv b) 9218868437227405311)),[])
 | _,_=>.fail
theorem Gz:Sound Tryz.prog cod 132 Ep:=ax (cfg:=Co) pD mixed Tryz.func132 rfl rfl _ fun args H r news hg b0 hb=>by
 unfold Ep at hg;split at hg
 ·skip
  cases hg;exact PC _ b0 hb
 ·exact hg.elim
def CH:aQ cod:=(132,.p Ep)::CI
def Cn:aT cod:=c9 CH
theorem pB:cv Tryz.prog cod CH:=.cons Gz pD
def xB:bA:=[]
theorem TZ (b:Nat):aI Cn xB Tryz.f75.results.toList 0 400 [.code (aj Tryz.f75)] ⟨ay Tryz.f75 [.c (.raw (.float .f64 b))],([]:Heap cod)⟩=
.aa (F.rl b) (
.ret (.fin (.c (.raw (Value.float .f64 (F.Pa Ieee.Toward.down b)))) [])):=by kernel_rfl
theorem O9 (b:Nat) (b0:aC) (hb:b0.n=0) (h0:F.rl b):Sym.af Tryz.prog b0 [.code (aj Tryz.f75)] ⟨ay Tryz.f75 [.c (.raw (.float .f64 b))],([]:Heap cod)⟩ (Sym.Ends Tryz.prog Tryz.f75 0 (.c (.raw (.float .f64 (F.Pa .down b)))) []):=by
 refine af.go (cfg:=Cn) pB mixed xB 400 hb (TZ _) ?_;simp only [T.wp,bF,and_true];exact h0
def En:aH cod:=fun args H=>match args,H with
 | [.c (.raw (.float .f64 b))],[]=>.aa ((F.rl b)) (.ret (.c (.raw (.float .f64 (F.Pa .down b))),[]))
 | _,_=>.fail
theorem Ge:Sound Tryz.prog cod 75 En:=ax (cfg:=Cn) pB mixed Tryz.func75 rfl rfl _ fun args H r news hg b0 hb=>by
 unfold En at hg;split at hg
 ·skip
  simp only [T.ah,T.wp,Prod.mk.injEq] at hg;obtain ⟨q0,rfl,rfl⟩:=hg;exact O9 _ b0 hb (by assumption)
 ·exact hg.elim
def CF:aQ cod:=(75,.p En)::CH
def lG:aT cod:=c9 CF
theorem jt:cv Tryz.prog cod CF:=.cons Ge pB
theorem dF {a b r:Nat} (h:F.fo .mul a b=some r):Sym.F.bC .f64 a b∧Sym.F.aG .f64 a b=r:=by
 have e:FloatKind.f64.format.mul a b=some r:=F.M6 h;unfold Sym.F.bC Sym.F.aG;rw [e];exact ⟨rfl,rfl⟩
theorem gS {op:BinOp} {a b r:Nat} (h:F.fo op a b=some r):Sym.F.bS op .f64 a b∧Sym.F.bK op .f64 a b=r:=by
 have e:=F.M6 h;unfold Sym.F.bS Sym.F.bK;rw [e];exact ⟨rfl,rfl⟩
theorem il {zz c r:Nat} {a:Option Nat} (h:F.hn zz c a=some r):∃q,a=some q∧∃m,F.fo .mul q zz=some m∧F.fo .add m c=some r:=by
 obtain ⟨q,h1,h2⟩:=Option.bind_eq_some_iff.1 h;exact ⟨q,h1,Option.bind_eq_some_iff.1 h2⟩
def FX:bA:=[(100020,[6,4,3],0),(100024,[3,7,6,4],0)]
def qY:bA:=[(100024,[3,7,6,4],0)]
def qZ:bA:=[(100020,[6,4,3],0)]
theorem adD (b:Nat):aI lG FX Tryz.f156.results.toList 0 400 [.code (aj Tryz.f156)] ⟨ay Tryz.f156 [.c (.raw (.float .f64 b))],([]:Heap cod)⟩=
 (let q2:=F.nq .f64 b;
 let q6:=F.aG .f64 b 4608412980311869571;
 let vH:=F.aG .f64 q2 4608412980311869571;
 let q0:=F.EV .f64 vH IntKind.u64;
 let po:=F.gm .f64 q0;
 let q4:=F.bK BinOp.add .f64 po 4607182418800017408;
 let KF:=F.gm .f64 q0;
 let q5:=F.bK BinOp.add .f64 KF 4607182418800017408;
 let yL:=F.gm .f64 q0;
 let D7:=F.EV .f64 q6 IntKind.u64;
 let q1:=F.gm .f64 D7;
 let q7:=F.bK BinOp.add .f64 q1 4607182418800017408;
 let q8:=F.bK BinOp.add .f64 q1 4607182418800017408;
 let q9:=F.bK BinOp.add .f64 q1 4607182418800017408;
 let KG:=F.bK BinOp.add .f64 q1 4607182418800017408;
 let D8:=F.gm .f64 q0;
 let q3:=F.bK BinOp.add .f64 D8 4607182418800017408;
 let Qw:=F.gm .f64 q0;
 let wg:=F.bK BinOp.add .f64 Qw 4607182418800017408;
 cond (F.iO .f64 b 0) (.ret (.fin (.c (.raw (Value.float .f64 b))) [])) (cond (!F.iO .f64 b b) (.ret (.fin (.c (.raw (Value.float .f64 b))) [])) (cond (F.nl .f64 (F.vv b) 9218868437227405311) (.fail) (cond (F.Dp .f64 b 0) (cond (F.nl .f64 q2 4737786807993761792||F.iO .f64 q2 4737786807993761792) (.fail) (.aa (F.bC .f64 q2 4608412980311869571) (.aa (F.ml .f64 vH IntKind.u64) (cond (decide (bits BinOp.and IntKind.u64 q0 1=1)) (.aa (F.bS BinOp.add .f64 yL 4607182418800017408) (.aa (F.bC .f64 q5 4605249456957292544) (.aa (F.bS BinOp.sub .f64 q2 (F.aG .f64 q4 4605249456957292544)) (.aa (F.bC .f64 q5 4495793288086814720) (.aa (F.bS BinOp.sub .f64 (F.bK BinOp.sub .f64 q2 (F.aG .f64 q3 4605249456957292544)) (F.aG .f64 q4 4495793288086814720)) (.aa (F.bC .f64 q5 4388835458085048688) (.aa (F.bS BinOp.sub .f64 (F.bK BinOp.sub .f64 (F.bK BinOp.sub .f64 q2 (F.aG .f64 wg 4605249456957292544)) (F.aG .f64 q3 4495793288086814720)) (F.aG .f64 q4 4388835458085048688)) (.ret (.cut (bu Tryz.f156 20) ⟨bc 135 [(3,.c (.bool true)),(0,.c (.int .u64 (bits BinOp.and IntKind.u64 (IntKind.wrap IntKind.u64 (F.EV .f64 vH IntKind.u64+1)) 7))),(1,.c (.raw (Value.float .f64 (F.bK BinOp.sub .f64 (F.bK BinOp.sub .f64 (F.bK BinOp.sub .f64 q2 (F.aG .f64 (F.bK BinOp.add .f64 (F.gm .f64 q0) 4607182418800017408) 4605249456957292544)) (F.aG .f64 wg 4495793288086814720)) (F.aG .f64 q3 4388835458085048688)))))],[]⟩))))))))) (.aa (F.bC .f64 yL 4605249456957292544) (.aa (F.bS BinOp.sub .f64 q2 (F.aG .f64 KF 4605249456957292544)) (.aa (F.bC .f64 yL 4495793288086814720) (.aa (F.bS BinOp.sub .f64 (F.bK BinOp.sub .f64 q2 (F.aG .f64 po 4605249456957292544)) (F.aG .f64 KF 4495793288086814720)) (.aa (F.bC .f64 yL 4388835458085048688) (.aa (F.bS BinOp.sub .f64 (F.bK BinOp.sub .f64 (F.bK BinOp.sub .f64 q2 (F.aG .f64 D8 4605249456957292544)) (F.aG .f64 po 4495793288086814720)) (F.aG .f64 KF 4388835458085048688)) (.ret (.cut (bu Tryz.f156 20) ⟨bc 135 [(3,.c (.bool true)),(0,.c (.int .u64 (bits BinOp.and IntKind.u64 q0 7))),(1,.c (.raw (Value.float .f64 (F.bK BinOp.sub .f64 (F.bK BinOp.sub .f64 (F.bK BinOp.sub .f64 q2 (F.aG .f64 Qw 4605249456957292544)) (F.aG .f64 D8 4495793288086814720)) (F.aG .f64 po 4388835458085048688)))))],[]⟩)))))))))))) (cond (F.nl .f64 b 4737786807993761792||F.iO .f64 b 4737786807993761792) (.fail) (.aa (F.bC .f64 b 4608412980311869571) (.aa (F.ml .f64 q6 IntKind.u64) (cond (decide (bits BinOp.and IntKind.u64 D7 1=1)) (.aa (F.bS BinOp.add .f64 q1 4607182418800017408) (.aa (F.bC .f64 q9 4605249456957292544) (.aa (F.bS BinOp.sub .f64 b (F.aG .f64 q8 4605249456957292544)) (.aa (F.bC .f64 q9 4495793288086814720) (.aa (F.bS BinOp.sub .f64 (F.bK BinOp.sub .f64 b (F.aG .f64 q7 4605249456957292544)) (F.aG .f64 q8 4495793288086814720)) (.aa (F.bC .f64 q9 4388835458085048688) (.aa (F.bS BinOp.sub .f64 (F.bK BinOp.sub .f64 (F.bK BinOp.sub .f64 b (F.aG .f64 KG 4605249456957292544)) (F.aG .f64 q7 4495793288086814720)) (F.aG .f64 q8 4388835458085048688)) (.ret (.cut (bu Tryz.f156 20) ⟨bc 135 [(3,.c (.bool false)),(0,.c (.int .u64 (bits BinOp.and IntKind.u64 (IntKind.wrap IntKind.u64 (F.EV .f64 q6 IntKind.u64+1)) 7))),(1,.c (.raw (Value.float .f64 (F.bK BinOp.sub .f64 (F.bK BinOp.sub .f64 (F.bK BinOp.sub .f64 b (F.aG .f64 (F.bK BinOp.add .f64 q1 4607182418800017408) 4605249456957292544)) (F.aG .f64 KG 4495793288086814720)) (F.aG .f64 q7 4388835458085048688)))))],[]⟩))))))))) (.aa (F.bC .f64 q1 4605249456957292544) (.aa (F.bS BinOp.sub .f64 b (F.aG .f64 q1 4605249456957292544)) (.aa (F.bC .f64 q1 4495793288086814720) (.aa (F.bS BinOp.sub .f64 (F.bK BinOp.sub .f64 b (F.aG .f64 q1 4605249456957292544)) (F.aG .f64 q1 4495793288086814720)) (.aa (F.bC .f64 q1 4388835458085048688) (.aa (F.bS BinOp.sub .f64 (F.bK BinOp.sub .f64 (F.bK BinOp.sub .f64 b (F.aG .f64 q1 4605249456957292544)) (F.aG .f64 q1 4495793288086814720)) (F.aG .f64 q1 4388835458085048688)) (.ret (.cut (bu Tryz.f156 20) ⟨bc 135 [(3,.c (.bool false)),(0,.c (.int .u64 (bits BinOp.and IntKind.u64 D7 7))),(1,.c (.raw (Value.float .f64 (F.bK BinOp.sub .f64 (F.bK BinOp.sub .f64 (F.bK BinOp.sub .f64 b (F.aG .f64 q1 4605249456957292544)) (F.aG .f64 q1 4495793288086814720)) (F.aG .f64 q1 4388835458085048688)))))],[]⟩)))))))))))))))):=by kernel_rfl
def zH (_:Nat) (j:Int) (z:Nat):St cod:=⟨bc 135 [(3,.c (.bool false)),(0,.c (.int .u64 j)),(1,.c (.raw (.float .f64 z)))],[]⟩
theorem WQ (b:Nat) (j:Int) (z:Nat):aI lG qY Tryz.f156.results.toList 0 400 (bu Tryz.f156 20) (zH b j z)=
 (let q0:=F.bC .f64 z z;
 cond (decide (3 < j)) (.aa q0 (.ret (.cut (bu Tryz.f156 24) ⟨bc 134 [(3,.c (.bool !false)),(0,.c (.int .u64 (IntKind.wrap IntKind.u64 (j - 4)))),(1,.c (.raw (Value.float .f64 z))),(0,.c (.raw (Value.float .f64 (F.aG .f64 z z))))],[]⟩))) (.aa q0 (.ret (.cut (bu Tryz.f156 24) ⟨bc 134 [(3,.c (.bool false)),(0,.c (.int .u64 j)),(1,.c (.raw (Value.float .f64 z))),(0,.c (.raw (Value.float .f64 (F.aG .f64 z z))))],[]⟩)))):=by kernel_rfl
def zI (_:Nat) (j:Int) (sn:Bool) (z zz:Nat):St cod:=⟨bc 134 [(3,.c (.bool sn)),(0,.c (.int .u64 j)),(1,.c (.raw (.float .f64 z))),(0,.c (.raw (.float .f64 zz)))],[]⟩
theorem WR (b:Nat) (j:Int) (sn:Bool) (z zz:Nat):aI lG qZ Tryz.f156.results.toList 0 400 (bu Tryz.f156 24) (zI b j sn z zz)=
 (let vH:=F.aG .f64 13666448263388469915 zz;
 let q0:=F.bK BinOp.add .f64 vH 4477121864728985349;
 let q6:=F.bS BinOp.add .f64 (F.aG .f64 (F.bK BinOp.add .f64 (F.aG .f64 (F.bK BinOp.add .f64 (F.aG .f64 (F.bK BinOp.add .f64 (F.aG .f64 q0 zz) 13732177093698800582) zz) 4537941361668146421) zz) 13787419979223748497) zz) 4586165620538955083;
 let q7:=F.bC .f64 (F.bK BinOp.add .f64 (F.aG .f64 (F.bK BinOp.add .f64 (F.aG .f64 (F.bK BinOp.add .f64 (F.aG .f64 q0 zz) 13732177093698800582) zz) 4537941361668146421) zz) 13787419979223748497) zz;
 let q8:=F.bS BinOp.add .f64 (F.aG .f64 (F.bK BinOp.add .f64 (F.aG .f64 (F.bK BinOp.add .f64 (F.aG .f64 q0 zz) 13732177093698800582) zz) 4537941361668146421) zz) 13787419979223748497;
 let q9:=F.bC .f64 (F.bK BinOp.add .f64 (F.aG .f64 (F.bK BinOp.add .f64 (F.aG .f64 q0 zz) 13732177093698800582) zz) 4537941361668146421) zz;
 let wg:=F.bS BinOp.add .f64 (F.aG .f64 (F.bK BinOp.add .f64 (F.aG .f64 q0 zz) 13732177093698800582) zz) 4537941361668146421;
 let KF:=F.bC .f64 (F.bK BinOp.add .f64 (F.aG .f64 q0 zz) 13732177093698800582) zz;
 let KG:=F.bS BinOp.add .f64 (F.aG .f64 q0 zz) 13732177093698800582;
 let D7:=F.aG .f64 4460209587652500685 zz;
 let q1:=F.bK BinOp.add .f64 D7 13716528389658582877;
 let D8:=F.aG .f64 zz zz;
 let q5:=F.bC .f64 D8 (F.bK BinOp.add .f64 (F.aG .f64 (F.bK BinOp.add .f64 (F.aG .f64 (F.bK BinOp.add .f64 (F.aG .f64 (F.bK BinOp.add .f64 (F.aG .f64 q0 zz) 13732177093698800582) zz) 4537941361668146421) zz) 13787419979223748497) zz) 4586165620538955083);
 let Qw:=F.aG .f64 z zz;
 let ZK:=F.bS BinOp.add .f64 vH 4477121864728985349;
 let q20:=F.bC .f64 13666448263388469915 zz;
 let q21:=F.bC .f64 4602678819172646912 zz;
 let q22:=F.aG .f64 4602678819172646912 zz;
 let po:=F.bK BinOp.sub .f64 4607182418800017408 q22;
 let q2:=F.nq .f64 (F.bK BinOp.add .f64 po (F.aG .f64 D8 (F.bK BinOp.add .f64 (F.aG .f64 (F.bK BinOp.add .f64 (F.aG .f64 (F.bK BinOp.add .f64 (F.aG .f64 (F.bK BinOp.add .f64 (F.aG .f64 (F.bK BinOp.add .f64 vH 4477121864728985349) zz) 13732177093698800582) zz) 4537941361668146421) zz) 13787419979223748497) zz) 4586165620538955083)));
 let q3:=F.bK BinOp.add .f64 po (F.aG .f64 D8 (F.bK BinOp.add .f64 (F.aG .f64 (F.bK BinOp.add .f64 (F.aG .f64 (F.bK BinOp.add .f64 (F.aG .f64 (F.bK BinOp.add .f64 (F.aG .f64 q0 zz) 13732177093698800582) zz) 4537941361668146421) zz) 13787419979223748497) zz) 4586165620538955083));
 let q4:=F.bS BinOp.add .f64 po (F.aG .f64 D8 (F.bK BinOp.add .f64 (F.aG .f64 (F.bK BinOp.add .f64 (F.aG .f64 (F.bK BinOp.add .f64 (F.aG .f64 (F.bK BinOp.add .f64 (F.aG .f64 q0 zz) 13732177093698800582) zz) 4537941361668146421) zz) 13787419979223748497) zz) 4586165620538955083));
 let yL:=F.bS BinOp.sub .f64 4607182418800017408 q22;
 let q23:=F.bC .f64 q0 zz;
 cond (decide (j=1)) (.aa q21 (.aa yL (.aa (F.bC .f64 zz zz) (.aa (((0:Int)≤0∧(0:Int) < Int.ofNat 6)) (.aa q20 (.aa (((0:Int)≤1∧(1:Int) < Int.ofNat 6)) (.aa ZK (.aa q23 (.aa (((0:Int)≤2∧(2:Int) < Int.ofNat 6)) (.aa KG (.aa KF (.aa (((0:Int)≤3∧(3:Int) < Int.ofNat 6)) (.aa wg (.aa q9 (.aa (((0:Int)≤4∧(4:Int) < Int.ofNat 6)) (.aa q8 (.aa q7 (.aa (((0:Int)≤5∧(5:Int) < Int.ofNat 6)) (.aa q6 (.aa q5 (.aa q4 (cond (sn) (.ret (.fin (.c (.raw (Value.float .f64 q2))) [])) (.ret (.fin (.c (.raw (Value.float .f64 q3))) [])))))))))))))))))))))))) (cond (decide (j=2)) (.aa q21 (.aa yL (.aa (F.bC .f64 zz zz) (.aa (((0:Int)≤0∧(0:Int) < Int.ofNat 6)) (.aa q20 (.aa (((0:Int)≤1∧(1:Int) < Int.ofNat 6)) (.aa ZK (.aa q23 (.aa (((0:Int)≤2∧(2:Int) < Int.ofNat 6)) (.aa KG (.aa KF (.aa (((0:Int)≤3∧(3:Int) < Int.ofNat 6)) (.aa wg (.aa q9 (.aa (((0:Int)≤4∧(4:Int) < Int.ofNat 6)) (.aa q8 (.aa q7 (.aa (((0:Int)≤5∧(5:Int) < Int.ofNat 6)) (.aa q6 (.aa q5 (.aa q4 (cond (sn) (.ret (.fin (.c (.raw (Value.float .f64 q2))) [])) (.ret (.fin (.c (.raw (Value.float .f64 q3))) [])))))))))))))))))))))))) (.aa (F.bC .f64 z zz) (.aa (((0:Int)≤0∧(0:Int) < Int.ofNat 6)) (.aa (F.bC .f64 4460209587652500685 zz) (.aa (((0:Int)≤1∧(1:Int) < Int.ofNat 6)) (.aa (F.bS BinOp.add .f64 D7 13716528389658582877) (.aa (F.bC .f64 q1 zz) (.aa (((0:Int)≤2∧(2:Int) < Int.ofNat 6)) (.aa (F.bS BinOp.add .f64 (F.aG .f64 q1 zz) 4523617212962785441) (.aa (F.bC .f64 (F.bK BinOp.add .f64 (F.aG .f64 q1 zz) 4523617212962785441) zz) (.aa (((0:Int)≤3∧(3:Int) < Int.ofNat 6)) (.aa (F.bS BinOp.add .f64 (F.aG .f64 (F.bK BinOp.add .f64 (F.aG .f64 q1 zz) 4523617212962785441) zz) 13774824197404483331) (.aa (F.bC .f64 (F.bK BinOp.add .f64 (F.aG .f64 (F.bK BinOp.add .f64 (F.aG .f64 q1 zz) 4523617212962785441) zz) 13774824197404483331) zz) (.aa (((0:Int)≤4∧(4:Int) < Int.ofNat 6)) (.aa (F.bS BinOp.add .f64 (F.aG .f64 (F.bK BinOp.add .f64 (F.aG .f64 (F.bK BinOp.add .f64 (F.aG .f64 q1 zz) 4523617212962785441) zz) 13774824197404483331) zz) 4575957461383575504) (.aa (F.bC .f64 (F.bK BinOp.add .f64 (F.aG .f64 (F.bK BinOp.add .f64 (F.aG .f64 (F.bK BinOp.add .f64 (F.aG .f64 q1 zz) 4523617212962785441) zz) 13774824197404483331) zz) 4575957461383575504) zz) (.aa (((0:Int)≤5∧(5:Int) < Int.ofNat 6)) (.aa (F.bS BinOp.add .f64 (F.aG .f64 (F.bK BinOp.add .f64 (F.aG .f64 (F.bK BinOp.add .f64 (F.aG .f64 (F.bK BinOp.add .f64 (F.aG .f64 q1 zz) 4523617212962785441) zz) 13774824197404483331) zz) 4575957461383575504) zz) 13818544856648471880) (.aa (F.bC .f64 Qw (F.bK BinOp.add .f64 (F.aG .f64 (F.bK BinOp.add .f64 (F.aG .f64 (F.bK BinOp.add .f64 (F.aG .f64 (F.bK BinOp.add .f64 (F.aG .f64 q1 zz) 4523617212962785441) zz) 13774824197404483331) zz) 4575957461383575504) zz) 13818544856648471880)) (.aa (F.bS BinOp.add .f64 z (F.aG .f64 Qw (F.bK BinOp.add .f64 (F.aG .f64 (F.bK BinOp.add .f64 (F.aG .f64 (F.bK BinOp.add .f64 (F.aG .f64 (F.bK BinOp.add .f64 (F.aG .f64 q1 zz) 4523617212962785441) zz) 13774824197404483331) zz) 4575957461383575504) zz) 13818544856648471880))) (cond (sn) (.ret (.fin (.c (.raw (Value.float .f64 (F.nq .f64 (F.bK BinOp.add .f64 z (F.aG .f64 Qw (F.bK BinOp.add .f64 (F.aG .f64 (F.bK BinOp.add .f64 (F.aG .f64 (F.bK BinOp.add .f64 (F.aG .f64 (F.bK BinOp.add .f64 (F.aG .f64 (F.bK BinOp.add .f64 D7 13716528389658582877) zz) 4523617212962785441) zz) 13774824197404483331) zz) 4575957461383575504) zz) 13818544856648471880))))))) [])) (.ret (.fin (.c (.raw (Value.float .f64 (F.bK BinOp.add .f64 z (F.aG .f64 Qw (F.bK BinOp.add .f64 (F.aG .f64 (F.bK BinOp.add .f64 (F.aG .f64 (F.bK BinOp.add .f64 (F.aG .f64 (F.bK BinOp.add .f64 (F.aG .f64 q1 zz) 4523617212962785441) zz) 13774824197404483331) zz) 4575957461383575504) zz) 13818544856648471880)))))) [])))))))))))))))))))))))):=by kernel_rfl
theorem Z7 (b:Nat) (b0:aC) (hb:b0.n=0) (h0:F.zj b):Sym.af Tryz.prog b0 [.code (aj Tryz.f156)] ⟨ay Tryz.f156 [.c (.raw (.float .f64 b))],([]:Heap cod)⟩ (Sym.Ends Tryz.prog Tryz.f156 0 (.c (.raw (.float .f64 (F.oR b)))) []):=by
 have i0:((0:Int)≤0∧(0:Int) < Int.ofNat 6):=by decide
 have i1:((0:Int)≤1∧(1:Int) < Int.ofNat 6):=by decide
 have i2:((0:Int)≤2∧(2:Int) < Int.ofNat 6):=by decide
 have i3:((0:Int)≤3∧(3:Int) < Int.ofNat 6):=by decide
 have i4:((0:Int)≤4∧(4:Int) < Int.ofNat 6):=by decide
 have i5:((0:Int)≤5∧(5:Int) < Int.ofNat 6):=by decide
 have r24:∀(j:Int) (sn:Bool) (z zz y:Nat),(if j=1∨j=2 then F.pC zz else F.pS z zz)=some y→(if sn then Sym.F.nq .f64 y else y)=F.oR b→
  Sym.af Tryz.prog b0 (bu Tryz.f156 24) (zI b j sn z zz) (Sym.Ends Tryz.prog Tryz.f156 0 (.c (.raw (.float .f64 (F.oR b)))) []):=by
  intro j sn z zz y hy he;refine af.go (cfg:=lG) jt mixed qZ 400 hb (WR b j sn z zz) ?_;rw [←he];by_cases hj:j=1∨j=2
  ·rw [if_pos hj] at hy;unfold F.pC at hy;obtain ⟨a,q1,hy⟩:=Option.bind_eq_some_iff.1 hy;obtain ⟨c,q2,hy⟩:=Option.bind_eq_some_iff.1 hy;obtain ⟨q,q3,hy⟩:=Option.bind_eq_some_iff.1 hy;obtain ⟨p,hp,hy⟩:=Option.bind_eq_some_iff.1 hy;obtain ⟨r,q4,q5⟩:=Option.bind_eq_some_iff.1 hy;obtain ⟨p4,hp,m4,u4,v4⟩:=il hp;obtain ⟨p3,hp,m3,u3,v3⟩:=il hp;obtain ⟨p2,hp,m2,u2,v2⟩:=il hp;obtain ⟨p1,hp,m1,u1,v1⟩:=il hp;obtain ⟨p0,hp,m0,u0,v0⟩:=il hp;cases hp;have Q1:=dF q1;have Q2:=gS q2;have Q3:=dF q3;have Q4:=dF q4;have Q5:=gS q5;have U0:=dF u0;have U1:=dF u1;have U2:=dF u2;have U3:=dF u3;have U4:=dF u4;have V0:=gS v0;have V1:=gS v1;have V2:=gS v2;have V3:=gS v3;have V4:=gS v4;have k1:(j=1)∨(¬j=1∧j=2):=by omega
   rcases k1 with k1 | ⟨k1,k2⟩
   ·simp only [T.wp,T.wp_cond,bF,Int.ofNat_eq_natCast,decide_eq_true_eq,and_true,true_and,k1,if_true,decide_true,Q1.2,Q2.2,Q3.2,Q4.2,Q5.2,U0.2,U1.2,U2.2,U3.2,U4.2,V0.2,V1.2,V2.2,V3.2,V4.2,Q1.1,Q2.1,Q3.1,Q4.1,Q5.1,U0.1,U1.1,U2.1,U3.1,U4.1,V0.1,V1.1,V2.1,V3.1,V4.1,i0,i1,i2,i3,i4,i5,true_and];cases sn<;>simp
   ·simp only [T.wp,T.wp_cond,bF,Int.ofNat_eq_natCast,decide_eq_true_eq,and_true,true_and,k2,if_true,Q1.2,Q2.2,Q3.2,Q4.2,Q5.2,U0.2,U1.2,U2.2,U3.2,U4.2,V0.2,V1.2,V2.2,V3.2,V4.2,Q1.1,Q2.1,Q3.1,Q4.1,Q5.1,U0.1,U1.1,U2.1,U3.1,U4.1,V0.1,V1.1,V2.1,V3.1,V4.1,i0,i1,i2,i3,i4,i5,true_and];cases sn<;>simp
  ·rw [if_neg hj] at hy;unfold F.pS at hy;obtain ⟨q,q3,hy⟩:=Option.bind_eq_some_iff.1 hy;obtain ⟨p,hp,hy⟩:=Option.bind_eq_some_iff.1 hy;obtain ⟨r,q4,q5⟩:=Option.bind_eq_some_iff.1 hy;obtain ⟨p4,hp,m4,u4,v4⟩:=il hp;obtain ⟨p3,hp,m3,u3,v3⟩:=il hp;obtain ⟨p2,hp,m2,u2,v2⟩:=il hp;obtain ⟨p1,hp,m1,u1,v1⟩:=il hp;obtain ⟨p0,hp,m0,u0,v0⟩:=il hp;cases hp;have Q3:=dF q3;have Q4:=dF q4;have Q5:=gS q5;have U0:=dF u0;have U1:=dF u1;have U2:=dF u2;have U3:=dF u3;have U4:=dF u4;have V0:=gS v0;have V1:=gS v1;have V2:=gS v2;have V3:=gS v3;have V4:=gS v4;have k1:¬j=1:=fun e=>hj (.inl e);have k2:¬j=2:=fun e=>hj (.inr e);simp only [T.wp,T.wp_cond,bF,Int.ofNat_eq_natCast,decide_eq_true_eq,and_true,true_and,k1,k2,if_false,Q3.2,Q4.2,Q5.2,U0.2,U1.2,U2.2,U3.2,U4.2,V0.2,V1.2,V2.2,V3.2,V4.2,Q3.1,Q4.1,Q5.1,U0.1,U1.1,U2.1,U3.1,U4.1,V0.1,V1.1,V2.1,V3.1,V4.1,i0,i1,i2,i3,i4,i5,true_and];cases sn<;>simp
 have r20:∀(j:Int) (z y:Nat),F.sB j z=some y→y=F.oR b→
  Sym.af Tryz.prog b0 (bu Tryz.f156 20) (zH b j z) (Sym.Ends Tryz.prog Tryz.f156 0 (.c (.raw (.float .f64 (F.oR b)))) []):=by
  intro j z y hy he;refine af.go (cfg:=lG) jt mixed qY 400 hb (WQ b j z) ?_;unfold F.sB at hy;obtain ⟨zz,q1,hy⟩:=Option.bind_eq_some_iff.1 hy;obtain ⟨y0,h1,h2⟩:=Option.map_eq_some_iff.1 hy;have Q1:=dF q1;simp only [T.wp,T.wp_cond,bF,decide_eq_true_eq,true_and,Q1.1,Q1.2,true_and];by_cases h3:3 < j
  ·rw [if_pos h3] at h1 h2;exact aq h3 (r24 _ true z zz y0 h1 (by rw [if_pos rfl,h2,he]))
  ·rw [if_neg h3] at h1 h2;exact ap h3 (r24 _ false z zz y0 h1 (by rw [if_neg (by decide),h2,he]))
 obtain ⟨hP,hS⟩:=h0;obtain ⟨s,hs⟩:=Option.isSome_iff_exists.1 hS
 have hF:F.oR b=s:=by
  unfold F.oR;rw [hs];rfl
 unfold F.Z6 at hP;simp only [Bool.and_eq_true,Bool.not_eq_true',Bool.or_eq_false_iff] at hP;obtain ⟨g1,⟨g2,g3⟩,g4,g5⟩:=hP;refine af.go (cfg:=lG) jt mixed FX 400 hb (adD b) ?_;unfold F.Z4 at hs
 cases h0:Sym.F.iO .f64 b 0 with
 | true=>
   rw [if_pos h0] at hs;have e:F.oR b=b:=by rw [hF];exact (Option.some.inj hs).symm
   simp only [T.wp,T.wp_cond,bF,decide_eq_true_eq,and_true,Bool.not_eq_true',if_true,e]
 | false=>
   rw [if_neg (by rw [h0];decide)] at hs;obtain ⟨p,h1,h2⟩:=Option.bind_eq_some_iff.1 hs;unfold F.sA at h1;obtain ⟨q,q1,h1⟩:=Option.bind_eq_some_iff.1 h1;obtain ⟨j,q2,h1⟩:=Option.bind_eq_some_iff.1 h1;obtain ⟨p',q3,h1⟩:=Option.bind_eq_some_iff.1 h1;obtain ⟨m1,u1,h1⟩:=Option.bind_eq_some_iff.1 h1;obtain ⟨z1,v1,h1⟩:=Option.bind_eq_some_iff.1 h1;obtain ⟨m2,u2,h1⟩:=Option.bind_eq_some_iff.1 h1;obtain ⟨z2,v2,h1⟩:=Option.bind_eq_some_iff.1 h1;obtain ⟨m3,u3,h1⟩:=Option.bind_eq_some_iff.1 h1;obtain ⟨z3,v3,h1⟩:=Option.bind_eq_some_iff.1 h1;cases h1;have Q1:=dF q1
   have Q2:Sym.F.ml .f64 q .u64∧Sym.F.EV .f64 q .u64=j:=by
    unfold Sym.F.ml Sym.F.EV;rw [q2];exact ⟨rfl,rfl⟩
   have U1:=dF u1;have U2:=dF u2;have U3:=dF u3;have V1:=gS v1;have V2:=gS v2;have V3:=gS v3;by_cases hj:bits .and .u64 j 1=1
   ·rw [if_pos hj] at q3;obtain ⟨y,w1,rfl⟩:=Option.map_eq_some_iff.1 q3;have W:=gS w1;simp only [T.wp,T.wp_cond,bF,decide_eq_true_eq,and_true,true_and,g1,g2,g3,g4,g5,Q1.1,Q1.2,Q2.1,Q2.2,W.1,W.2,hj,U1.1,U1.2,V1.1,V1.2,U2.1,U2.2,V2.1,V2.2,U3.1,U3.2,V3.1,V3.2,if_true,if_false,Bool.or_self,Bool.not_true,Bool.false_eq_true,true_and];exact r20 _ _ _ h2 hF.symm
   ·rw [if_neg hj] at q3;cases q3;simp only [T.wp,T.wp_cond,bF,decide_eq_true_eq,and_true,true_and,g1,g2,g3,g4,g5,Q1.1,Q1.2,Q2.1,Q2.2,hj,U1.1,U1.2,V1.1,V1.2,U2.1,U2.2,V2.1,V2.2,U3.1,U3.2,V3.1,V3.2,if_false,Bool.or_self,Bool.not_true,Bool.false_eq_true,true_and];exact r20 _ _ _ h2 hF.symm
def Ww:aH cod:=fun args H=>match args,H with
 | [.c (.raw (.float .f64 b))],[]=>.aa ((F.zj b)) (.ret (.c (.raw (.float .f64 (F.oR b))),[]))
 | _,_=>.fail
theorem QQ:Sound Tryz.prog cod 156 Ww:=ax (cfg:=lG) jt mixed Tryz.func156 rfl rfl _ fun args H r news hg b0 hb=>by
 unfold Ww at hg;split at hg
 ·skip
  simp only [T.ah,T.wp,Prod.mk.injEq] at hg;obtain ⟨q0,rfl,rfl⟩:=hg;exact Z7 _ b0 hb (by assumption)
 ·exact hg.elim
def SB:aQ cod:=(156,.p Ww)::CF
def RW:aT cod:=c9 SB
theorem xd:cv Tryz.prog cod SB:=.cons QQ jt
def xK:bA:=[]
theorem VX (b:Nat):aI RW xK Tryz.f138.results.toList 0 400 [.code (aj Tryz.f138)] ⟨ay Tryz.f138 [.c (.raw (.float .f64 b))],([]:Heap cod)⟩=
 (let q0:=Int.fdiv (Int.ofNat b) (2^min (Int.toNat 52) 64);
 .aa ((0:Int)≤52) (cond (decide (bits BinOp.and IntKind.u64 q0 2047 < 1023)) (cond (decide (bits BinOp.and IntKind.u64 q0 2047=1022)) (.ret (.fin (.c (.raw (Value.float .f64 (bits BinOp.or IntKind.u64 (bits BinOp.and IntKind.u64 (Int.ofNat b) 9223372036854775808) 4607182418800017408).toNat))) [])) (.ret (.fin (.c (.raw (Value.float .f64 (bits BinOp.and IntKind.u64 (Int.ofNat b) 9223372036854775808).toNat))) []))) (cond (decide (bits BinOp.and IntKind.u64 q0 2047 < 1075)) (.aa ((0:Int)≤IntKind.wrap IntKind.u64 (bits BinOp.and IntKind.u64 q0 2047 - 1023)) (.aa ((0:Int)≤IntKind.wrap IntKind.u64 (bits BinOp.and IntKind.u64 q0 2047 - 1023)) (.ret (.fin (.c (.raw (Value.float .f64 (bits BinOp.andNot IntKind.u64 (IntKind.wrap IntKind.u64 (Int.ofNat b+Int.fdiv 2251799813685248 (2^min (IntKind.wrap IntKind.u64 (bits BinOp.and IntKind.u64 q0 2047 - 1023)).toNat 64))) (Int.fdiv 4503599627370495 (2^min (IntKind.wrap IntKind.u64 (bits BinOp.and IntKind.u64 q0 2047 - 1023)).toNat 64))).toNat))) [])))) (.ret (.fin (.c (.raw (Value.float .f64 (Int.ofNat b).toNat))) []))))):=by kernel_rfl
theorem QG (b:Nat) (b0:aC) (hb:b0.n=0):Sym.af Tryz.prog b0 [.code (aj Tryz.f138)] ⟨ay Tryz.f138 [.c (.raw (.float .f64 b))],([]:Heap cod)⟩ (Sym.Ends Tryz.prog Tryz.f138 0 (.c (.raw (.float .f64 (F.rnd b)))) []):=by
 refine af.go (cfg:=RW) xd mixed xK 400 hb (VX b) ?_;have e52:(2:Int)^min (Int.toNat 52) 64=4503599627370496:=by decide
 simp only [T.wp,T.wp_cond,bF,Int.ofNat_eq_natCast,decide_eq_true_eq,and_true,e52,Int.ofNat_eq_natCast];generalize hF:F.rnd b=R;unfold F.rnd at hF;dsimp only at hF;generalize bits .and .u64 ((b:Int).fdiv 4503599627370496) 2047=e at hF ⊢;refine And.intro (by decide) ?_;by_cases h1:e < 1023
 ·rw [if_pos h1] at hF;refine aq h1 ?_;by_cases h2:e=1022
  ·rw [if_pos h2] at hF;subst hF;exact aq h2 rfl
  ·rw [if_neg h2] at hF;subst hF;exact ap h2 rfl
 ·rw [if_neg h1] at hF;refine ap h1 ?_;by_cases h2:e < 1075
  ·rw [if_pos h2] at hF;subst hF
   have w:IntKind.u64.wrap (e - 1023)=e - 1023:=by
    rw [IntKind.wrap_u64];omega
   rw [w,show min (e - 1023).toNat 64=(e - 1023).toNat by omega];exact aq h2 ⟨by omega,by omega,rfl⟩
  ·rw [if_neg h2] at hF;subst hF;exact ap h2 (by rw [Int.toNat_natCast])
def Ez:aH cod:=fun args H=>match args,H with
 | [.c (.raw (.float .f64 b))],[]=>.ret (.c (.raw (.float .f64 (F.rnd b))),[])
 | _,_=>.fail
theorem Hh:Sound Tryz.prog cod 138 Ez:=ax (cfg:=RW) xd mixed Tryz.func138 rfl rfl _ fun args H r news hg b0 hb=>by
 unfold Ez at hg;split at hg
 ·skip
  cases hg;exact QG _ b0 hb
 ·exact hg.elim
def CN:aQ cod:=(138,.p Ez)::SB
def Cs:aT cod:=c9 CN
theorem pI:cv Tryz.prog cod CN:=.cons Hh xd
end
end
section
theorem LD:F.eI 0 128=true:=by decide+kernel
theorem LF:F.eI 128 128=true:=by decide+kernel
theorem LG:F.eI 256 128=true:=by decide+kernel
theorem LH:F.eI 384 128=true:=by decide+kernel
theorem LI:F.eI 512 128=true:=by decide+kernel
theorem LJ:F.eI 640 128=true:=by decide+kernel
theorem LK:F.eI 768 128=true:=by decide+kernel
theorem LM:F.eI 896 128=true:=by decide+kernel
theorem LN:F.eI 1024 128=true:=by decide+kernel
theorem LO:F.eI 1152 128=true:=by decide+kernel
theorem LP:F.eI 1280 128=true:=by decide+kernel
theorem LQ:F.eI 1408 128=true:=by decide+kernel
theorem LR:F.eI 1536 128=true:=by decide+kernel
theorem LS:F.eI 1664 128=true:=by decide+kernel
theorem LU:F.eI 1792 128=true:=by decide+kernel
theorem LV:F.eI 1920 128=true:=by decide+kernel
theorem LW:F.eI 2048 128=true:=by decide+kernel
theorem LX:F.eI 2176 128=true:=by decide+kernel
theorem LY:F.eI 2304 128=true:=by decide+kernel
theorem LZ:F.eI 2432 128=true:=by decide+kernel
theorem L0:F.eI 2560 128=true:=by decide+kernel
theorem L1:F.eI 2688 128=true:=by decide+kernel
theorem L2:F.eI 2816 128=true:=by decide+kernel
theorem L3:F.eI 2944 128=true:=by decide+kernel
theorem L4:F.eI 3072 128=true:=by decide+kernel
theorem L5:F.eI 3200 128=true:=by decide+kernel
theorem L6:F.eI 3328 128=true:=by decide+kernel
theorem L7:F.eI 3456 128=true:=by decide+kernel
theorem L8:F.eI 3584 128=true:=by decide+kernel
theorem L9:F.eI 3712 128=true:=by decide+kernel
theorem Ma:F.eI 3840 128=true:=by decide+kernel
theorem Mb:F.eI 3968 128=true:=by decide+kernel
end
section
open Sym Go.RowKit
noncomputable section
set_option maxRecDepth 100000
set_option maxHeartbeats 4000000
namespace F
def norm (h:Int):Int:=(h.tmod 4096+4096).tmod 4096
def cp (h:Int):Int:=(Z5 (norm h).toNat).getD 0
end F
theorem iS (h:Int):0≤F.norm h∧F.norm h < 4096:=by
 unfold F.norm;have a1:=Int.tmod_lt_of_pos h (show (0:Int) < 4096 by decide);have a2:=Int.lt_tmod_of_pos h (show (0:Int) < 4096 by decide);have a3:=Int.tmod_lt_of_pos (h.tmod 4096+4096) (show (0:Int) < 4096 by decide);have a4:=Int.tmod_nonneg 4096 (show (0:Int)≤h.tmod 4096+4096 by omega);exact ⟨a4,a3⟩
theorem XV {n m k:Nat} (h:F.eI n m=true) (h1:n≤k) (h2:k < n+m):F.WO k=true:=by
 induction m with
 | zero=>omega
 | succ m ih=>
   unfold F.eI at h;obtain ⟨a,b⟩:=Bool.and_eq_true_iff.1 h;by_cases e:k=n+m
   ·rw [e];exact a
   ·exact ih b (by omega)
theorem Hv (k:Nat) (h:k < 4096):∃z,F.Z5 k=some z∧-16384≤z∧z≤16384:=by
 have g:F.WO k=true:=by
  have c:k / 128 < 32:=by omega
  have key:∀i:Nat,F.eI (128*i) 128=true→k / 128=i→F.WO k=true:=fun i hi e=>XV hi (by omega) (by omega);generalize hq:k / 128=i at c
  match i,c with
  | 0,_=>exact key 0 LD hq
  | 1,_=>exact key 1 LF hq
  | 2,_=>exact key 2 LG hq
  | 3,_=>exact key 3 LH hq
  | 4,_=>exact key 4 LI hq
  | 5,_=>exact key 5 LJ hq
  | 6,_=>exact key 6 LK hq
  | 7,_=>exact key 7 LM hq
  | 8,_=>exact key 8 LN hq
  | 9,_=>exact key 9 LO hq
  | 10,_=>exact key 10 LP hq
  | 11,_=>exact key 11 LQ hq
  | 12,_=>exact key 12 LR hq
  | 13,_=>exact key 13 LS hq
  | 14,_=>exact key 14 LU hq
  | 15,_=>exact key 15 LV hq
  | 16,_=>exact key 16 LW hq
  | 17,_=>exact key 17 LX hq
  | 18,_=>exact key 18 LY hq
  | 19,_=>exact key 19 LZ hq
  | 20,_=>exact key 20 L0 hq
  | 21,_=>exact key 21 L1 hq
  | 22,_=>exact key 22 L2 hq
  | 23,_=>exact key 23 L3 hq
  | 24,_=>exact key 24 L4 hq
  | 25,_=>exact key 25 L5 hq
  | 26,_=>exact key 26 L6 hq
  | 27,_=>exact key 27 L7 hq
  | 28,_=>exact key 28 L8 hq
  | 29,_=>exact key 29 L9 hq
  | 30,_=>exact key 30 Ma hq
  | 31,_=>exact key 31 Mb hq
  | n+32,c=>omega
 unfold F.WO at g;split at g
 ·rename_i z hz;obtain ⟨a,b⟩:=Bool.and_eq_true_iff.1 g;exact ⟨z,hz,of_decide_eq_true a,of_decide_eq_true b⟩
 ·cases g
theorem l7 (h:Int): -16384≤F.cp h∧F.cp h≤16384:=by
 have n:=iS h;obtain ⟨z,h1,h2⟩:=Hv (F.norm h).toNat (by omega);unfold F.cp;rw [h1];exact h2
def Bk:bA:=[]
theorem Zu (h:Int):aI Cs Bk Tryz.f77.results.toList 0 400 [.code (aj Tryz.f77)] ⟨ay Tryz.f77 [.c (.int .i64 h)],([]:Heap cod)⟩=
.aa ((4096:Int)≠0) (
.aa (ae (Int.tmod h 4096+4096)) (
.aa ((4096:Int)≠0) (
.ret (.fin (.c (.int .i64 (Int.tmod (Int.tmod h 4096+4096) 4096))) [])))):=by kernel_rfl
theorem Vu (h:Int) (b0:aC) (hb:b0.n=0):Sym.af Tryz.prog b0 [.code (aj Tryz.f77)] ⟨ay Tryz.f77 [.c (.int .i64 h)],([]:Heap cod)⟩ (Sym.Ends Tryz.prog Tryz.f77 0 (.c (.int .i64 (F.norm h))) []):=by
 refine af.go (cfg:=Cs) pI mixed Bk 400 hb (Zu h) ?_;have a1:=Int.tmod_lt_of_pos h (show (0:Int) < 4096 by decide);have a2:=Int.lt_tmod_of_pos h (show (0:Int) < 4096 by decide);simp only [T.wp,bF,and_true];refine ⟨by decide,by unfold Sym.ae;omega,by decide,rfl⟩
def Lk:aH cod:=fun args H=>match args,H with
 | [.c (.int .i64 h)],[]=>.ret (.c (.int .i64 (F.norm h)),[])
 | _,_=>.fail
theorem KA:Sound Tryz.prog cod 77 Lk:=ax (cfg:=Cs) pI mixed Tryz.func77 rfl rfl _ fun args H r news hg b0 hb=>by
 unfold Lk at hg;split at hg
 ·skip
  cases hg;exact Vu _ b0 hb
 ·exact hg.elim
def IX:aQ cod:=(77,.p Lk)::CN
def Ix:aT cod:=c9 IX
theorem sZ:cv Tryz.prog cod IX:=.cons KA pI
def Bi:bA:=[]
theorem Zk (b:Nat):aI Ix Bi Tryz.f139.results.toList 0 400 [.code (aj Tryz.f139)] ⟨ay Tryz.f139 [.c (.raw (.float .f64 b))],([]:Heap cod)⟩=
.aa (F.zj b) (
.ret (.fin (.c (.raw (Value.float .f64 (F.oR b)))) [])):=by kernel_rfl
theorem Vh (b:Nat) (b0:aC) (hb:b0.n=0) (h0:F.zj b):Sym.af Tryz.prog b0 [.code (aj Tryz.f139)] ⟨ay Tryz.f139 [.c (.raw (.float .f64 b))],([]:Heap cod)⟩ (Sym.Ends Tryz.prog Tryz.f139 0 (.c (.raw (.float .f64 (F.oR b)))) []):=by
 refine af.go (cfg:=Ix) sZ mixed Bi 400 hb (Zk b) ?_;simp only [T.wp,bF,and_true];exact h0
def Lg:aH cod:=fun args H=>match args,H with
 | [.c (.raw (.float .f64 b))],[]=>.aa ((F.zj b)) (.ret (.c (.raw (.float .f64 (F.oR b))),[]))
 | _,_=>.fail
theorem Ks:Sound Tryz.prog cod 139 Lg:=ax (cfg:=Ix) sZ mixed Tryz.func139 rfl rfl _ fun args H r news hg b0 hb=>by
 unfold Lg at hg;split at hg
 ·skip
  simp only [T.ah,T.wp,Prod.mk.injEq] at hg;obtain ⟨q0,rfl,rfl⟩:=hg;exact Vh _ b0 hb (by assumption)
 ·exact hg.elim
def IU:aQ cod:=(139,.p Lg)::IX
def Iv:aT cod:=c9 IU
theorem sX:cv Tryz.prog cod IU:=.cons Ks sZ
def A4:bA:=[]
theorem XQ (h:Int):aI Iv A4 Tryz.f107.results.toList 0 400 [.code (aj Tryz.f107)] ⟨ay Tryz.f107 [.c (.int .i64 h)],([]:Heap cod)⟩=
 (let q2:=F.gm .f64 (F.norm h);
 let q0:=F.aG .f64 q2 4614256656552045848;
 let q1:=F.rnd (F.aG .f64 4670232813583204352 (F.oR (F.bK BinOp.quo .f64 q0 4656722014701092864)));
 .aa (F.bC .f64 q2 4614256656552045848) (.aa (F.bS BinOp.quo .f64 q0 4656722014701092864) (.aa (F.zj (F.bK BinOp.quo .f64 q0 4656722014701092864)) (.aa (F.bC .f64 4670232813583204352 (F.oR (F.bK BinOp.quo .f64 q0 4656722014701092864))) (.aa (F.ml .f64 q1 IntKind.i64) (.ret (.fin (.c (.int .i64 (F.EV .f64 q1 IntKind.i64))) []))))))):=by kernel_rfl
theorem SO (h:Int) (b0:aC) (hb:b0.n=0):Sym.af Tryz.prog b0 [.code (aj Tryz.f107)] ⟨ay Tryz.f107 [.c (.int .i64 h)],([]:Heap cod)⟩ (Sym.Ends Tryz.prog Tryz.f107 0 (.c (.int .i64 (F.cp h))) []):=by
 refine af.go (cfg:=Iv) sX mixed A4 400 hb (XQ h) ?_;obtain ⟨z,hz,_⟩:=Hv (F.norm h).toNat (by have:=iS h;omega)
 have hs:F.cp h=z:=by
  unfold F.cp;rw [hz];rfl
 unfold F.Z5 at hz;rw [show (((F.norm h).toNat:Nat):Int)=F.norm h by have:=iS h;omega] at hz;obtain ⟨a,q1,hz⟩:=Option.bind_eq_some_iff.1 hz;obtain ⟨x,q2,hz⟩:=Option.bind_eq_some_iff.1 hz
 cases hP:F.Z6 x with
 | false=>rw [hP] at hz;cases hz
 | true=>
   rw [hP] at hz;obtain ⟨s,q3,hz⟩:=Option.bind_eq_some_iff.1 hz;obtain ⟨m,q4,hz⟩:=Option.bind_eq_some_iff.1 hz;rw [Q.force_eq] at hz;have Q1:=dF q1;have Q2:=gS q2
   have hF:F.oR x=s:=by
    unfold F.oR;rw [q3];rfl
   have ok:F.zj x:=⟨hP,by rw [q3];rfl⟩;have Q4:=dF q4
   have Q5:Sym.F.ml .f64 (F.rnd m) .i64∧Sym.F.EV .f64 (F.rnd m) .i64=z:=by
    unfold Sym.F.ml Sym.F.EV;rw [hz];exact ⟨rfl,rfl⟩
   simp only [T.wp,bF,and_true,Q1.1,Q1.2,Q2.1,Q2.2,ok,hF,Q4.1,Q4.2,Q5.1,Q5.2,hs]
def KT:aH cod:=fun args H=>match args,H with
 | [.c (.int .i64 h)],[]=>.ret (.c (.int .i64 (F.cp h)),[])
 | _,_=>.fail
theorem Ja:Sound Tryz.prog cod 107 KT:=ax (cfg:=Iv) sX mixed Tryz.func107 rfl rfl _ fun args H r news hg b0 hb=>by
 unfold KT at hg;split at hg
 ·skip
  cases hg;exact SO _ b0 hb
 ·exact hg.elim
def IB:aQ cod:=(107,.p KT)::IU
def Io:aT cod:=c9 IB
theorem sN:cv Tryz.prog cod IB:=.cons Ja sX
end
end
end Go.Proofs.YtcjagpfbhnmggaaGreatDoor
