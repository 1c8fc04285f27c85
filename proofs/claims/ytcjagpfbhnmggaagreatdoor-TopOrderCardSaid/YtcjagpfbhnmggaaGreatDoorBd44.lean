/- Parts of the proof. -/
import Derived.Test.YtcjagpfbhnmggaaGreatDoorBd41
import Derived.Test.YtcjagpfbhnmggaaGreatDoorBd43
namespace Go.Proofs.YtcjagpfbhnmggaaGreatDoor
section
open Sym Go.RowKit
noncomputable section
set_option maxRecDepth 100000
set_option maxHeartbeats 4000000
noncomputable def NW:aH cod:=Vc [1] Lq
theorem Ho:dX Tryz.prog cod 13 NW:=GJ [1] LB
noncomputable def MO:aQ cod:=(13,.i NW)::SA
theorem I2:cv Tryz.prog cod MO:=.FJ Ho Om
noncomputable def Sy:aQ cod:=(12,.k abk)::MO
noncomputable def RU:aT cod:=c9 Sy
theorem xc:cv Tryz.prog cod Sy:=.To QD I2
namespace F
noncomputable def DW (r1 r2 r3 r4 r5 r6:Int):Prop:=lZ r1 r2=0∧(0≤r3∧r3≤100)∧(0≤r4∧r4≤20)∧(0≤r5∧r5≤256)∧(0≤r6∧r6≤256)
noncomputable def TJ (a b:List dT):Prop:=a=b∧a.length≤1000
noncomputable def ab1 (a b:List cU):Prop:=a=b∧a.length≤1000
end F
noncomputable def uO:bA:=[]
theorem Rc (r1 r2 r3 r4 r5 r6:Int):aI RU uO Tryz.f17.results.toList 0 400 [.code (aj Tryz.f17)] ⟨ay Tryz.f17 [.agg [.int .i64 r1,.int .i64 r2,.int .i64 r3,.int .i64 r4,.int .i64 r5,.int .i64 r6]],([]:Heap cod)⟩=
 cond (!decide (F.lZ r1 r2=0)) (
 .ret (.fin (.c (.int .i64 (F.lZ r1 r2))) [])) (
 cond (decide (r3 < 0)) (
  .ret (.fin (.c (.int .i64 4)) [])) (
  cond (decide (100 < r3)) (
   .ret (.fin (.c (.int .i64 4)) [])) (
   cond (decide (r4 < 0)) (
    .ret (.fin (.c (.int .i64 4)) [])) (
    cond (decide (20 < r4)) (
     .ret (.fin (.c (.int .i64 4)) [])) (
     cond (decide (r5 < 0)) (
      .ret (.fin (.c (.int .i64 4)) [])) (
      cond (decide (256 < r5)) (
       .ret (.fin (.c (.int .i64 4)) [])) (
       cond (decide (r6 < 0)) (
        .ret (.fin (.c (.int .i64 4)) [])) (
        cond (decide (256 < r6)) (
         .ret (.fin (.c (.int .i64 4)) [])) (
         .ret (.fin (.c (.int .i64 0)) [])))))))))):=by kernel_rfl
theorem Mu (r1 r2 r3 r4 r5 r6:Int) (b0:aC) (hb:b0.n=0) (h0:F.DW r1 r2 r3 r4 r5 r6):Sym.af Tryz.prog b0 [.code (aj Tryz.f17)] ⟨ay Tryz.f17 [.agg [.int .i64 r1,.int .i64 r2,.int .i64 r3,.int .i64 r4,.int .i64 r5,.int .i64 r6]],([]:Heap cod)⟩ (Sym.Ends Tryz.prog Tryz.f17 0 (.c (.int .i64 0)) []):=by
 refine af.go (cfg:=RU) xc mixed uO 400 hb (Rc r1 r2 r3 r4 r5 r6) ?_;obtain ⟨o1,⟨o2,o3⟩,⟨o4,o5⟩,⟨o6,o7⟩,o8,o9⟩:=h0;have no:∀{p:Prop} [Decidable p],¬p→¬(decide p=true):=fun h e=>h (of_decide_eq_true e);simp only [T.wp,T.wp_cond,bF];refine ap (by rw [o1];decide) (ap (no (by omega)) (ap (no (by omega)) (ap (no (by omega)) (ap (no (by omega)) (ap (no (by omega)) (ap (no (by omega)) (ap (no (by omega)) (ap (no (by omega)) ?_))))))));exact (by first | exact ⟨rfl,rfl⟩ | exact ⟨rfl,trivial⟩ | exact ⟨trivial,rfl⟩ | exact ⟨trivial,trivial⟩)
noncomputable def zd:aH cod:=fun args H=>match args,H with
 | [.agg [.int .i64 r1,.int .i64 r2,.int .i64 r3,.int .i64 r4,.int .i64 r5,.int .i64 r6]],[]=>.aa ((F.DW r1 r2 r3 r4 r5 r6)) (.ret (.c (.int .i64 0),[]))
 | _,_=>.fail
theorem EO:Sound Tryz.prog cod 17 zd:=ax (cfg:=RU) xc mixed Tryz.func17 rfl rfl _ fun args H r news hg b0 hb=>by
 unfold zd at hg;split at hg
 ·skip
  simp only [T.ah,T.wp,Prod.mk.injEq] at hg;obtain ⟨q0,rfl,rfl⟩:=hg;exact Mu _ _ _ _ _ _ b0 hb (by assumption)
 ·exact hg.elim
noncomputable def xg:aQ cod:=(17,.p zd)::Sy
noncomputable def wD:aT cod:=c9 xg
theorem mP:cv Tryz.prog cod xg:=.cons EO xc
noncomputable def Bn:bA:=[]
theorem aan (r1 r2 r3 r4 r5 r6:Int):aI wD Bn Tryz.f5.results.toList 0 400 [.code (aj Tryz.f5)] ⟨ay Tryz.f5 [.agg [.int .i64 r1,.int .i64 r2,.int .i64 r3,.int .i64 r4,.int .i64 r5,.int .i64 r6]],([]:Heap cod)⟩=
.aa (F.DW r1 r2 r3 r4 r5 r6) (
.ret (.fin (.aP [.c (.ptr 0 0 0),.c (.int .i64 0)]) [.aF [.int .i64 r1,.int .i64 r2,.int .i64 r3,.int .i64 r4,.int .i64 r5,.int .i64 r6,.nil,.int .i64 0,.int .i64 (-1)] 62])):=by kernel_rfl
theorem W8 (r1 r2 r3 r4 r5 r6:Int) (b0:aC) (hb:b0.n=0) (h0:F.DW r1 r2 r3 r4 r5 r6):Sym.af Tryz.prog b0 [.code (aj Tryz.f5)] ⟨ay Tryz.f5 [.agg [.int .i64 r1,.int .i64 r2,.int .i64 r3,.int .i64 r4,.int .i64 r5,.int .i64 r6]],([]:Heap cod)⟩ (Sym.Ends Tryz.prog Tryz.f5 0 (.aP [.c (.ptr 0 0 0),.c (.int .i64 0)]) [.aF [.int .i64 r1,.int .i64 r2,.int .i64 r3,.int .i64 r4,.int .i64 r5,.int .i64 r6,.nil,.int .i64 0,.int .i64 (-1)] 62]):=by
 refine af.go (cfg:=wD) mP mixed Bn 400 hb (aan r1 r2 r3 r4 r5 r6) ?_;exact ⟨h0,(by first | exact ⟨rfl,rfl⟩ | exact ⟨rfl,trivial⟩ | exact ⟨trivial,rfl⟩ | exact ⟨trivial,trivial⟩)⟩
noncomputable def Lv:aH cod:=fun args H=>match args,H with
 | [.agg [.int .i64 r1,.int .i64 r2,.int .i64 r3,.int .i64 r4,.int .i64 r5,.int .i64 r6]],[]=>.aa ((F.DW r1 r2 r3 r4 r5 r6)) (.ret (.aP [.c (.ptr 0 0 0),.c (.int .i64 0)],[.aF [.int .i64 r1,.int .i64 r2,.int .i64 r3,.int .i64 r4,.int .i64 r5,.int .i64 r6,.nil,.int .i64 0,.int .i64 (-1)] 62]))
 | _,_=>.fail
theorem Mw:Sound Tryz.prog cod 5 Lv:=ax (cfg:=wD) mP mixed Tryz.func5 rfl rfl _ fun args H r news hg b0 hb=>by
 unfold Lv at hg;split at hg
 ·skip
  simp only [T.ah,T.wp,Prod.mk.injEq] at hg;obtain ⟨q0,rfl,rfl⟩:=hg;exact W8 _ _ _ _ _ _ b0 hb (by assumption)
 ·exact hg.elim
noncomputable def I6:aQ cod:=(5,.p Lv)::xg
noncomputable def sK:aT cod:=c9 I6
theorem kJ:cv Tryz.prog cod I6:=.cons Mw mP
noncomputable def mZ:bA:=[(4,[1,0,12,13],2)]
theorem ab3 (a:List F.dT) (qC:Bool) (b:List F.dT) (qI:Bool):aI sK mZ Tryz.f14.results.toList 2 400 [.code (aj Tryz.f14)] ⟨ay Tryz.f14 [.c (.ai 0 0 a.length qC),.c (.ai 1 0 b.length qI)],([.aB 5 a,.aB 5 b]:Heap cod)⟩=
 (let q0:=List.length a;
 cond (!decide (Int.ofNat q0=Int.ofNat b.length)) (.ret (.fin (.c (.bool false)) [])) (.ret (.cut (cutAt Tryz.f14 4) ⟨bc 12 [(0,.c (.ai 0 0 q0 qC)),(0,.c (.ai 1 0 b.length qI)),(10,.c (.int .i64 (Int.ofNat q0))),(0,.c (.int .i64 0))],[.aB 5 a,.aB 5 b]⟩))):=by kernel_rfl
noncomputable def HM (a:List F.dT) (qC:Bool) (b:List F.dT) (qI:Bool) (k:Int):St cod:=⟨bc 12 [(0,.c (.ai 0 0 a.length qC)),(0,.c (.ai 1 0 b.length qI)),(10,.c (.int .i64 (Int.ofNat a.length))),(0,.c (.int .i64 k))],[.aB 5 a,.aB 5 b]⟩
theorem TL (a:List F.dT) (qC:Bool) (b:List F.dT) (qI:Bool) (k:Int):aI sK mZ Tryz.f14.results.toList 2 400 (cutAt Tryz.f14 4) (HM a qC b qI k)=
 (let q0:=List.getD a (0+Int.toNat k) (cod 5).d;
 let q1:=List.getD b (0+Int.toNat k) (cod 5).d;
 let q2:=List.length a;
 cond (decide (k < Int.ofNat q2)) (.aa (((0:Int)≤k∧k < Int.ofNat q2)) (.aa (0+Int.toNat k < List.length a) (.aa (((0:Int)≤k∧k < Int.ofNat b.length)) (.aa (0+Int.toNat k < List.length b) (cond (!(decide (q0.id=q1.id)&&(decide (q0.st=q1.st)&&(decide (q0.tm=q1.tm)&&(decide (q0.x=q1.x)&&decide (q0.y=q1.y)&&(decide (q0.sx=q1.sx)&&decide (q0.sy=q1.sy)&&(decide (q0.hg=q1.hg)&&(decide (q0.rt=q1.rt)&&(decide (q0.ra=q1.ra)&&(decide (q0.cd=q1.cd)&&(decide (q0.ht=q1.ht)&&decide (q0.ms=q1.ms)))))))))))) (.ret (.fin (.c (.bool false)) [])) (.aa (ae (k+1)) (.ret (.cut (cutAt Tryz.f14 4) ⟨bc 12 [(0,.c (.ai 0 0 q2 qC)),(0,.c (.ai 1 0 b.length qI)),(10,.c (.int .i64 (Int.ofNat q2))),(0,.c (.int .i64 (k+1)))],[.aB 5 a,.aB 5 b]⟩)))))))) (.ret (.fin (.c (.bool true)) []))):=by kernel_rfl
theorem Yu (a:List F.dT) (qC:Bool) (b:List F.dT) (qI:Bool) (b0:aC) (hb:b0.n=2) (h0:F.TJ a b):Sym.af Tryz.prog b0 [.code (aj Tryz.f14)] ⟨ay Tryz.f14 [.c (.ai 0 0 a.length qC),.c (.ai 1 0 b.length qI)],([.aB 5 a,.aB 5 b]:Heap cod)⟩ (Sym.Ends Tryz.prog Tryz.f14 2 (.c (.bool true)) []):=by
 refine af.go (cfg:=sK) kJ mixed mZ 400 hb (ab3 a qC b qI) ?_;obtain ⟨e,h1⟩:=h0;subst e;simp only [T.wp,T.wp_cond,bF];refine ap (by simp only [decide_true,Bool.not_true];decide) ?_
 have run:∀q k,k+q=a.length→Sym.af Tryz.prog b0 (cutAt Tryz.f14 4) (HM a qC a qI (k:Int)) (Sym.Ends Tryz.prog Tryz.f14 2 (.c (.bool true)) []):=by
  intro q
  induction q with
  | zero=>
    intro k hk;refine af.go (cfg:=sK) kJ mixed mZ 400 hb (TL a qC a qI (k:Int)) ?_;simp only [T.wp,T.wp_cond,bF]
    exact ap (by rw [decide_eq_false (by simp only [Int.ofNat_eq_natCast];omega)];decide) (by first | exact ⟨rfl,rfl⟩ | exact ⟨rfl,trivial⟩ | exact ⟨trivial,rfl⟩ | exact ⟨trivial,trivial⟩)
  | succ q ih=>
    intro k hk;have ki:ae ((k:Int)+1):=by unfold ae;omega
    have nx:=ih (k+1) (by omega);rw [Int.natCast_succ] at nx;refine af.go (cfg:=sK) kJ mixed mZ 400 hb (TL a qC a qI (k:Int)) ?_;simp only [T.wp,T.wp_cond,bF,Int.toNat_natCast,Nat.zero_add];refine aq (decide_eq_true (by simp only [Int.ofNat_eq_natCast];omega)) ⟨(by simp only [Int.ofNat_eq_natCast];omega),by omega,(by simp only [Int.ofNat_eq_natCast];omega),by omega,?_⟩;refine ap (by simp only [decide_true,Bool.and_self,Bool.not_true];decide) ⟨ki,?_⟩;exact nx
 exact run a.length 0 (by omega)
noncomputable def Wg:aH cod:=fun args H=>match args,H with
 | [.c (.ai 0 a_i a_n _),.c (.ai 1 b_i b_n _)],[o0,o1]=>(match o0.cV 5 with | some a=>(match o1.cV 5 with | some b=>.aa ((a_i=0∧a_n=List.length a)∧(b_i=0∧b_n=List.length b)∧(F.TJ a b)) (.ret (.c (.bool true),[])) | none=>.fail) | none=>.fail)
 | _,_=>.fail
theorem od:Sound Tryz.prog cod 14 Wg:=ax (cfg:=sK) kJ mixed Tryz.func14 rfl rfl _ fun args H r news hg b0 hb=>by
 unfold Wg at hg;split at hg
 ·skip
  split at hg
  ·rename_i a gG;cases aR gG;split at hg
   ·rename_i b yo;cases aR yo;simp only [T.ah,T.wp,Prod.mk.injEq] at hg;obtain ⟨⟨⟨rfl,rfl⟩,⟨rfl,rfl⟩,q2⟩,rfl,rfl⟩:=hg;exact Yu _ _ _ _ b0 hb (by assumption)
   ·exact hg.elim
  ·exact hg.elim
 ·exact hg.elim
noncomputable def Sa:aQ cod:=(14,.p Wg)::I6
noncomputable def AI:aT cod:=c9 Sa
theorem mG:cv Tryz.prog cod Sa:=.cons od kJ
noncomputable def mY:bA:=[(4,[1,0,12,13],2)]
theorem ab2 (a:List F.cU) (qC:Bool) (b:List F.cU) (qI:Bool):aI AI mY Tryz.f15.results.toList 2 400 [.code (aj Tryz.f15)] ⟨ay Tryz.f15 [.c (.ai 0 0 a.length qC),.c (.ai 1 0 b.length qI)],([.aB 4 a,.aB 4 b]:Heap cod)⟩=
 (let q0:=List.length a;
 cond (!decide (Int.ofNat q0=Int.ofNat b.length)) (.ret (.fin (.c (.bool false)) [])) (.ret (.cut (cutAt Tryz.f15 4) ⟨bc 12 [(0,.c (.ai 0 0 q0 qC)),(0,.c (.ai 1 0 b.length qI)),(10,.c (.int .i64 (Int.ofNat q0))),(0,.c (.int .i64 0))],[.aB 4 a,.aB 4 b]⟩))):=by kernel_rfl
noncomputable def HL (a:List F.cU) (qC:Bool) (b:List F.cU) (qI:Bool) (k:Int):St cod:=⟨bc 12 [(0,.c (.ai 0 0 a.length qC)),(0,.c (.ai 1 0 b.length qI)),(10,.c (.int .i64 (Int.ofNat a.length))),(0,.c (.int .i64 k))],[.aB 4 a,.aB 4 b]⟩
theorem TK (a:List F.cU) (qC:Bool) (b:List F.cU) (qI:Bool) (k:Int):aI AI mY Tryz.f15.results.toList 2 400 (cutAt Tryz.f15 4) (HL a qC b qI k)=
 (let q0:=List.getD a (0+Int.toNat k) (cod 4).d;
 let q1:=List.getD b (0+Int.toNat k) (cod 4).d;
 let q2:=List.length a;
 cond (decide (k < Int.ofNat q2)) (.aa (((0:Int)≤k∧k < Int.ofNat q2)) (.aa (0+Int.toNat k < List.length a) (.aa (((0:Int)≤k∧k < Int.ofNat b.length)) (.aa (0+Int.toNat k < List.length b) (cond (!(decide (q0.t.id=q1.t.id)&&(decide (q0.t.st=q1.t.st)&&(decide (q0.t.tm=q1.t.tm)&&(decide (q0.t.x=q1.t.x)&&decide (q0.t.y=q1.t.y)&&(decide (q0.t.sx=q1.t.sx)&&decide (q0.t.sy=q1.t.sy)&&(decide (q0.t.hg=q1.t.hg)&&(decide (q0.t.rt=q1.t.rt)&&(decide (q0.t.ra=q1.t.ra)&&(decide (q0.t.cd=q1.t.cd)&&(decide (q0.t.ht=q1.t.ht)&&decide (q0.t.ms=q1.t.ms))))))))))&&(decide (q0.sl=q1.sl)&&(decide (q0.lt=q1.lt)&&(decide (q0.lx=q1.lx)&&decide (q0.ly=q1.ly)&&(decide (q0.lh=q1.lh)&&(decide (q0.lc=q1.lc)&&decide (q0.le=q1.le)))))))) (.ret (.fin (.c (.bool false)) [])) (.aa (ae (k+1)) (.ret (.cut (cutAt Tryz.f15 4) ⟨bc 12 [(0,.c (.ai 0 0 q2 qC)),(0,.c (.ai 1 0 b.length qI)),(10,.c (.int .i64 (Int.ofNat q2))),(0,.c (.int .i64 (k+1)))],[.aB 4 a,.aB 4 b]⟩)))))))) (.ret (.fin (.c (.bool true)) []))):=by kernel_rfl
theorem Yt (a:List F.cU) (qC:Bool) (b:List F.cU) (qI:Bool) (b0:aC) (hb:b0.n=2) (h0:F.ab1 a b):Sym.af Tryz.prog b0 [.code (aj Tryz.f15)] ⟨ay Tryz.f15 [.c (.ai 0 0 a.length qC),.c (.ai 1 0 b.length qI)],([.aB 4 a,.aB 4 b]:Heap cod)⟩ (Sym.Ends Tryz.prog Tryz.f15 2 (.c (.bool true)) []):=by
 refine af.go (cfg:=AI) mG mixed mY 400 hb (ab2 a qC b qI) ?_;obtain ⟨e,h1⟩:=h0;subst e;simp only [T.wp,T.wp_cond,bF];refine ap (by simp only [decide_true,Bool.not_true];decide) ?_
 have run:∀q k,k+q=a.length→Sym.af Tryz.prog b0 (cutAt Tryz.f15 4) (HL a qC a qI (k:Int)) (Sym.Ends Tryz.prog Tryz.f15 2 (.c (.bool true)) []):=by
  intro q
  induction q with
  | zero=>
    intro k hk;refine af.go (cfg:=AI) mG mixed mY 400 hb (TK a qC a qI (k:Int)) ?_;simp only [T.wp,T.wp_cond,bF]
    exact ap (by rw [decide_eq_false (by simp only [Int.ofNat_eq_natCast];omega)];decide) (by first | exact ⟨rfl,rfl⟩ | exact ⟨rfl,trivial⟩ | exact ⟨trivial,rfl⟩ | exact ⟨trivial,trivial⟩)
  | succ q ih=>
    intro k hk;have ki:ae ((k:Int)+1):=by unfold ae;omega
    have nx:=ih (k+1) (by omega);rw [Int.natCast_succ] at nx;refine af.go (cfg:=AI) mG mixed mY 400 hb (TK a qC a qI (k:Int)) ?_;simp only [T.wp,T.wp_cond,bF,Int.toNat_natCast,Nat.zero_add];refine aq (decide_eq_true (by simp only [Int.ofNat_eq_natCast];omega)) ⟨(by simp only [Int.ofNat_eq_natCast];omega),by omega,(by simp only [Int.ofNat_eq_natCast];omega),by omega,?_⟩;refine ap (by simp only [decide_true,Bool.and_self,Bool.not_true];decide) ⟨ki,?_⟩;exact nx
 exact run a.length 0 (by omega)
noncomputable def Wf:aH cod:=fun args H=>match args,H with
 | [.c (.ai 0 a_i a_n _),.c (.ai 1 b_i b_n _)],[o0,o1]=>(match o0.cV 4 with | some a=>(match o1.cV 4 with | some b=>.aa ((a_i=0∧a_n=List.length a)∧(b_i=0∧b_n=List.length b)∧(F.ab1 a b)) (.ret (.c (.bool true),[])) | none=>.fail) | none=>.fail)
 | _,_=>.fail
theorem O2:Sound Tryz.prog cod 15 Wf:=ax (cfg:=AI) mG mixed Tryz.func15 rfl rfl _ fun args H r news hg b0 hb=>by
 unfold Wf at hg;split at hg
 ·skip
  split at hg
  ·rename_i a gG;cases aR gG;split at hg
   ·rename_i b yo;cases aR yo;simp only [T.ah,T.wp,Prod.mk.injEq] at hg;obtain ⟨⟨⟨rfl,rfl⟩,⟨rfl,rfl⟩,q2⟩,rfl,rfl⟩:=hg;exact Yt _ _ _ _ b0 hb (by assumption)
   ·exact hg.elim
  ·exact hg.elim
 ·exact hg.elim
noncomputable def R9:aQ cod:=(15,.p Wf)::Sa
noncomputable def wz:aT cod:=c9 R9
theorem mF:cv Tryz.prog cod R9:=.cons O2 mG
noncomputable def xF:bA:=[(100004,[1],9),(100005,[1],30)]
noncomputable def ng:bA:=[(100005,[1],30)]
noncomputable def pb:bA:=[(100004,[1],9)]
theorem Vd:aI wz xF Tryz.f7.results.toList 0 400 [.code (aj Tryz.f7)] ⟨ay Tryz.f7 [],([]:Heap cod)⟩=
.aa (F.DW 2 3 4 1 160 128) (
.aa (True) (
.ret (.cut (bu Tryz.f7 4) ⟨bc 38 [(1,.c (.ptr 0 0 0))],[.aF [.int .i64 2,.int .i64 3,.int .i64 4,.int .i64 1,.int .i64 160,.int .i64 128,.nil,.int .i64 0,.int .i64 (-1)] 62]⟩))):=by kernel_rfl
noncomputable def HS:St cod:=⟨bc 38 [(1,.c (.ptr 0 0 0))],[.aF [.int .i64 2,.int .i64 3,.int .i64 4,.int .i64 1,.int .i64 160,.int .i64 128,.nil,.int .i64 0,.int .i64 (-1)] 62]⟩
noncomputable def rS:St cod:=⟨bc 38 [(1,.c (.ptr 0 0 0))],([.aF [.int .i64 2,.int .i64 3,.int .i64 4,.int .i64 1,.int .i64 160,.int .i64 128,.ai 1 0 0 false,.int .i64 0,.int .i64 (-1)] 62,.own 6 [] 81]:Heap cod)⟩
theorem Ko:aI wz ng Tryz.f7.results.toList 0 400 (bu Tryz.f7 4) (rS)=
 (let q0:=F.bI [(0,0,0,0,5,10)] 500;
 .aa ((SV.c (Cell.ai 1 0 1 true):SV)=SV.c (Cell.ai 1 0 1 true)) (.aa (F.lW 2 3 [] 0 0 (-1) [(0,0,0,0,5,10)] 0) (.ret (.cut (bu Tryz.f7 5) ⟨bc 38 [(1,.c (.ptr 0 0 0))],[.aF [.int .i64 2,.int .i64 3,.int .i64 4,.int .i64 1,.int .i64 160,.int .i64 128,.ai 4 0 1 false,.int .i64 (F.RC 4 1 160 128 [] 0 (-1) q0 0),.int .i64 0] 62,.own 6 [] 81,.arr 2 ([(0,0,0,0,5,10)]) 42,.own 5 (F.Hn 2 3 4 1 160 128 [] 0 (-1) q0 0) 50,.own 6 (F.XA 2 3 4 1 160 128 [] 0 (-1) q0 0) 81]⟩)))):=by kernel_rfl
noncomputable def vm (x:List F.bJ) (n:Nat) (nx:Int):St cod:=⟨bc 38 [(1,.c (.ptr 0 0 0))],([.aF [.int .i64 2,.int .i64 3,.int .i64 4,.int .i64 1,.int .i64 160,.int .i64 128,.ai 1 0 n false,.int .i64 nx,.int .i64 0] 62,.own 6 x 81]:Heap cod)⟩
theorem PQ (x:List F.bJ) (n:Nat) (nx:Int):aI wz pb Tryz.f7.results.toList 0 400 (bu Tryz.f7 5) (vm x n nx)=
 (let q0:=F.Hn 2 3 4 1 160 128 (List.take n x) nx 0 (F.bI [(4,0,0,0,5,10)] 500) 4;
 .aa ((SV.c (Cell.ai 1 0 1 true):SV)=SV.c (Cell.ai 1 0 1 true)) (.aa (F.lW 2 3 x n nx 0 [(4,0,0,0,5,10)] 4) (cond (decide (Int.ofNat q0.length=1)) (.aa (((0:Int)≤0∧(0:Int) < Int.ofNat q0.length)) (.aa ((0+Int.toNat 0:Nat) < List.length q0) (.ret (.fin (.c (.bool (decide ((List.getD q0 (0+Int.toNat 0) (cod 5).d).st=1)))) [])))) (.ret (.fin (.c (.bool false)) []))))):=by kernel_rfl
noncomputable def S1:List F.Sp:=[(0,0,0,0,5,10)]
noncomputable def S2:List F.Sp:=[(4,0,0,0,5,10)]
theorem aec:F.ft S1 0:=⟨by decide,by omega,fun s hs=>by rw [List.mem_singleton.1 hs];decide+kernel⟩
theorem aed:F.ft S2 4:=⟨by decide,by omega,fun s hs=>by rw [List.mem_singleton.1 hs];decide+kernel⟩
theorem VV:F.DW 2 3 4 1 160 128:=⟨rfl,by omega,by omega,by omega,by omega⟩
noncomputable def XL:List F.bJ:=F.XA 2 3 4 1 160 128 [] 0 (-1) (F.bI S1 500) 0
noncomputable def XN:Int:=F.RC 4 1 160 128 [] 0 (-1) (F.bI S1 500) 0
theorem abB:XL.length=1:=by kernel_rfl
theorem abC:XN=1:=by kernel_rfl
noncomputable def OL:List F.dT:=F.Hn 2 3 4 1 160 128 (XL.take 1) XN 0 (F.bI S2 500) 4
theorem abu:OL.length=1:=by kernel_rfl
theorem aeb:(OL.getD 0 (cod 5).d).st=1:=by kernel_rfl
theorem PP (b0:aC) (hb:b0.n=0):Sym.af Tryz.prog b0 [.code (aj Tryz.f7)] ⟨ay Tryz.f7 [],([]:Heap cod)⟩ (Sym.Ends Tryz.prog Tryz.f7 0 (.c (.bool true)) []):=by
 refine af.go (cfg:=wz) mF mixed xF 400 hb Vd ?_;refine ⟨VV,trivial,?_⟩;refine af.made 0 6 6 81 rfl rfl (bg:=(HS).made 0 6 6 81) rfl ?_;refine af.sj 0 (bg:=rS) rfl ?_;refine af.go (cfg:=wz) mF mixed ng 400 hb Ko ?_;refine ⟨rfl,⟨rfl,aec,by omega,by omega,by decide,by decide,by decide,.inl rfl⟩,?_⟩;refine af.iW [0,4] 2 hb (by decide) rfl rfl (bg:=vm XL 1 XN) rfl ?_;refine af.go (cfg:=wz) mF mixed pb 400 hb (PQ XL 1 XN) ?_;simp only [T.wp,T.wp_cond,bF];refine ⟨trivial,⟨rfl,aed,by omega,by rw [abC];omega,by rw [abB];decide,by decide,by decide,.inr (by decide)⟩,?_⟩;have e1:(F.Hn 2 3 4 1 160 128 (List.take 1 XL) XN 0 (F.bI [(4,0,0,0,5,10)] 500) 4).length=1:=abu;have e2:((F.Hn 2 3 4 1 160 128 (List.take 1 XL) XN 0 (F.bI [(4,0,0,0,5,10)] 500) 4).getD 0 (cod 5).d).st=1:=aeb;generalize F.Hn 2 3 4 1 160 128 (List.take 1 XL) XN 0 (F.bI [(4,0,0,0,5,10)] 500) 4=O at*;refine aq (by rw [e1];rfl) ⟨by rw [e1];decide,by rw [e1];decide,?_⟩;rw [show 0+Int.toNat 0=0 from rfl,e2];exact (by first | exact ⟨rfl,rfl⟩ | exact ⟨rfl,trivial⟩ | exact ⟨trivial,rfl⟩ | exact ⟨trivial,trivial⟩)
noncomputable def Es:aH cod:=fun args H=>match args,H with
 | [],[]=>.ret (.c (.bool true),[])
 | _,_=>.fail
theorem GK:Sound Tryz.prog cod 7 Es:=ax (cfg:=wz) mF mixed Tryz.func7 rfl rfl _ fun args H r news hg b0 hb=>by
 unfold Es at hg;split at hg
 ·skip
  cases hg;exact PP b0 hb
 ·exact hg.elim
noncomputable def dK:aQ cod:=(7,.p Es)::R9
noncomputable def XD:aT cod:=c9 dK
theorem eP:cv Tryz.prog cod dK:=.cons GK mF
end
end
namespace Sym
open Go.RowKit
section
variable {cod:Nat→aO}
noncomputable def lm (cfg:aT cod) (ops:Array Oper):List Nat→Array Bool→Bool
 | [],_=>true
 | i::l,listed=>((List.range ops.size).all fun j=>decide (j=i)||listed.getD j true||match ops[i]?,ops[j]? with
    | some oi,some oj=>kq (ca cfg oi) (ca cfg oj)||(oO ops i (j+1)).getD j false
    | _,_=>true)&&lm cfg ops l (listed.setIfInBounds i true)
noncomputable def rH (ops:Array Oper) (l:List Nat):List Oper:=l.filterMap fun i=>ops[i]?
theorem BQ {cfg:aT cod} {ops:Array Oper}:∀(l:List Nat) (listed:Array Bool) (st bg:St cod),lm cfg ops l listed=true→(l.all fun i=>match ops[i]? with | some o=>o.guard.isNone | none=>false)=true→(lT cfg (rH ops l) st).ah bg→yH cfg ops (fun _=>True) (fun s=>s=bg) l listed st
 | [],_,_,_,_,_,h=>⟨trivial,h.symm▸rfl⟩
 | i::l,listed,st,bg,hp,hg,h=>by
   simp only [lm,Bool.and_eq_true] at hp;simp only [List.all_cons,Bool.and_eq_true] at hg;obtain ⟨hp1,hp2⟩:=hp;obtain ⟨hg1,hg2⟩:=hg
   cases hi:ops[i]? with
   | none=>rw [hi] at hg1;cases hg1
   | some oi=>
     rw [hi] at hg1;unfold rH at h;rw [List.filterMap_cons,hi] at h;simp only at h hg1;unfold lT at h;rw [T.aw] at h;obtain ⟨s,h1,h2⟩:=h;refine ⟨trivial,oi,hi,fun j oj hj bP Nq=>?_,s,?_,BQ l _ s bg hp2 hg2 h2⟩
     ·have cI:j < ops.size:=(Array.getElem?_eq_some_iff.1 hj).1;have hc:=List.all_eq_true.1 hp1 j (List.mem_range.2 cI);rw [Nq,decide_eq_false bP,hi,hj] at hc;simp only [Bool.false_or,Bool.or_eq_true] at hc;rcases hc with hc | hc
      ·refine .inl fun vV s s1 s2 _ k1 k2=>?_;obtain ⟨t1,q1,q2⟩:=qk k1 k2 vV hc;exact ⟨t1,q1,q2,fun _=>trivial⟩
      ·exact .inr hc
     ·unfold aZ;rw [Option.isNone_iff_eq_none.1 hg1];exact h1
theorem af.aiv {cfg:aT cod} (hS:eL cfg) (hm:cfg.P.follows .mixedOrders=true) {b0:aC} {id:Nat} {ops:Array Oper} {L k:List Item} (hL:L= .code (.region id ops true)::k) {st:St cod} {Q:St cod→Prop} (ord:List Nat)
 (hl:ord.length=ops.size) (ho:rI ops ord (Array.replicate ops.size false)=true) (hp:lm cfg ops ord (Array.replicate ops.size false)=true)
 (hg:(ord.all fun i=>match ops[i]? with | some o=>o.guard.isNone | none=>false)=true) {t:T (St cod)} (ht:Sym.lT cfg (rH ops ord) st=t) (hr:t.wp fun s=>af cfg.P b0 k s Q):af cfg.P b0 L st Q:=by
 subst hL;subst ht;obtain ⟨s,h1,h2⟩:=T.jP hr;exact af.ord hS hm (fun _=>True) ord hl ho (BQ ord _ st s hp hg h1) h2
theorem af.aiu {cfg:aT cod} (hS:eL cfg) (hm:cfg.P.follows .mixedOrders=true) (cuts:bA) {b0:aC} {fn:Func} {r:SV} {news:Heap cod} (g:Nat) {N:Nat} (hb:b0.n=N) {id:Nat} {ops:Array Oper} {L k:List Item} (hL:L= .code (.region id ops true)::k) {st:St cod} (ord:List Nat)
 (hl:ord.length=ops.size) (ho:rI ops ord (Array.replicate ops.size false)=true) (hp:lm cfg ops ord (Array.replicate ops.size false)=true)
 (hg:(ord.all fun i=>match ops[i]? with | some o=>o.guard.isNone | none=>false)=true) {t:T (Fin cod)} (ht:((Sym.lT cfg (rH ops ord) st).bind fun s=>aI cfg cuts fn.results.toList N g k s)=t)
 (h:t.wp (bF cfg.P b0 (Ends cfg.P fn N r news) r news)):af cfg.P b0 L st (Ends cfg.P fn N r news):=by
 subst ht;refine af.aiv hS hm hL ord hl ho hp hg rfl ?_;rw [T.wp_bind] at h;exact T.wp_mono (fun s hs=>af.go hS hm cuts g hb rfl hs) h
end
end Sym
end Go.Proofs.YtcjagpfbhnmggaaGreatDoor
