/- Parts of the proof. -/
import Derived.Test.YtcjagpfbhnmggaaGreatDoorBd37
namespace Go.Proofs.YtcjagpfbhnmggaaGreatDoor
section
open Sym Go.RowKit
noncomputable section
set_option maxRecDepth 100000
set_option maxHeartbeats 4000000
namespace F
noncomputable def ft (l:List Sp) (time:Int):Prop:=l.length≤32∧(0≤time∧time≤200000)∧∀s∈l,RD s=0∧s.1=time
end F
noncomputable def kS:bA:=[(8,[2,28,29,30],3)]
theorem aam (r1 r2 r3 r4 r5 r6:Int) (x:List F.bJ) (du:Bool) (cw:Nat) (nx la:Int) (l:List (Int×Int×Int×Int×Int×Int)) (aA:Bool) (time:Int):aI AL kS Tryz.f22.results.toList 3 400 [.code (aj Tryz.f22)] ⟨ay Tryz.f22 [.c (.ptr 0 0 0),.c (.ai 1 0 l.length aA),.c (.int .i64 time)],([.aY [.int .i64 r1,.int .i64 r2,.int .i64 r3,.int .i64 r4,.int .i64 r5,.int .i64 r6,.ai 2 0 cw du,.int .i64 nx,.int .i64 la],.aB 2 l,.aB 6 x]:Heap cod)⟩=
 (let q0:=List.length l;
 cond (decide (32 < Int.ofNat q0)) (.ret (.fin (.c (.int .i64 2)) [])) (cond (decide (time < 0)) (.ret (.fin (.c (.int .i64 4)) [])) (cond (decide (200000 < time)) (.ret (.fin (.c (.int .i64 4)) [])) (cond (decide (time≤la)) (.ret (.fin (.c (.int .i64 12)) [])) (.ret (.cut (cutAt Tryz.f22 8) ⟨bc 13 [(2,.c (.int .i64 time)),(25,.c (.ai 1 0 q0 aA)),(0,.c (.int .i64 (Int.ofNat q0))),(0,.c (.int .i64 0))],[.aY [.int .i64 r1,.int .i64 r2,.int .i64 r3,.int .i64 r4,.int .i64 r5,.int .i64 r6,.ai 2 0 (cw) du,.int .i64 nx,.int .i64 la],.aB 2 l,.aB 6 x]⟩)))))):=by kernel_rfl
noncomputable def Cf (r1 r2 r3 r4 r5 r6:Int) (x:List F.bJ) (du:Bool) (cw:Nat) (nx la:Int) (l:List (Int×Int×Int×Int×Int×Int)) (aA:Bool) (time:Int) (k:Int):St cod:=⟨bc 13 [(2,.c (.int .i64 time)),(25,.c (.ai 1 0 l.length aA)),(0,.c (.int .i64 (Int.ofNat l.length))),(0,.c (.int .i64 k))],[.aY [.int .i64 r1,.int .i64 r2,.int .i64 r3,.int .i64 r4,.int .i64 r5,.int .i64 r6,.ai 2 0 (cw) du,.int .i64 nx,.int .i64 la],.aB 2 l,.aB 6 x]⟩
theorem Oa (r1 r2 r3 r4 r5 r6:Int) (x:List F.bJ) (du:Bool) (cw:Nat) (nx la:Int) (l:List (Int×Int×Int×Int×Int×Int)) (aA:Bool) (time:Int) (k:Int):aI AL kS Tryz.f22.results.toList 3 400 (cutAt Tryz.f22 8) (Cf r1 r2 r3 r4 r5 r6 x du cw nx la l aA time k)=
 (let q0:=List.getD l (0+Int.toNat k) (cod 2).d;
 let q1:=List.length l;
 cond (decide (k < Int.ofNat q1)) (.aa (((0:Int)≤k∧k < Int.ofNat q1)) (.aa (0+Int.toNat k < List.length l) (cond (!decide (F.spot q0.1 q0.2.1 q0.2.2.1 q0.2.2.2.1 q0.2.2.2.2.1 q0.2.2.2.2.2=0)) (.ret (.fin (.c (.int .i64 (F.spot q0.1 q0.2.1 q0.2.2.1 q0.2.2.2.1 q0.2.2.2.2.1 q0.2.2.2.2.2))) [])) (cond (!decide (q0.1=time)) (.ret (.fin (.c (.int .i64 12)) [])) (.aa (ae (k+1)) (.ret (.cut (cutAt Tryz.f22 8) ⟨bc 13 [(2,.c (.int .i64 time)),(25,.c (.ai 1 0 q1 aA)),(0,.c (.int .i64 (Int.ofNat q1))),(0,.c (.int .i64 (k+1)))],[.aY [.int .i64 r1,.int .i64 r2,.int .i64 r3,.int .i64 r4,.int .i64 r5,.int .i64 r6,.ai 2 0 (cw) du,.int .i64 nx,.int .i64 la],.aB 2 l,.aB 6 x]⟩))))))) (.ret (.fin (.c (.int .i64 0)) []))):=by kernel_rfl
theorem aal (r1 r2 r3 r4 r5 r6:Int) (x:List F.bJ) (du:Bool) (cw:Nat) (nx la:Int) (l:List F.Sp) (aA:Bool) (time:Int) (ho:F.ft l time) (b0:aC) (hb:b0.n=3):∀(r k:Nat),k+r=l.length→
 Sym.af Tryz.prog b0 (cutAt Tryz.f22 8) (Cf r1 r2 r3 r4 r5 r6 x du cw nx la l aA time (k:Int)) (Sym.Ends Tryz.prog Tryz.f22 3 (.c (.int .i64 0)) []):=by
 obtain ⟨o1,o2,o3⟩:=ho;intro r
 induction r with
 | zero=>
   intro k hk;refine af.go (cfg:=AL) mJ mixed kS 400 hb (Oa r1 r2 r3 r4 r5 r6 x du cw nx la l aA time (k:Int)) ?_;simp only [T.wp,T.wp_cond,bF]
   exact ap (by rw [decide_eq_false (by simp only [Int.ofNat_eq_natCast];omega)];decide) ⟨trivial,trivial⟩
 | succ r ih=>
   intro k hk;have fK:=ih (k+1) (by omega);rw [Int.natCast_succ] at fK;have fx:k < l.length:=by omega
   obtain ⟨s1,s2⟩:=o3 _ (dM fx);refine af.go (cfg:=AL) mJ mixed kS 400 hb (Oa r1 r2 r3 r4 r5 r6 x du cw nx la l aA time (k:Int)) ?_;simp only [T.wp,T.wp_cond,bF,Int.toNat_natCast,Nat.zero_add];refine aq (decide_eq_true (by simp only [Int.ofNat_eq_natCast];omega)) ⟨by simp only [Int.ofNat_eq_natCast];omega,fx,?_⟩
   refine ap (by
    change ¬(!decide (F.RD (l.getD k F.dq)=0))=true
    rw [s1];decide) (ap (by
    change ¬(!decide ((l.getD k F.dq).1=time))=true;rw [decide_eq_true s2];decide) ⟨by unfold ae;omega,fK⟩)
theorem W6 (r1 r2 r3 r4 r5 r6:Int) (x:List F.bJ) (du:Bool) (cw:Nat) (nx la:Int) (l:List (Int×Int×Int×Int×Int×Int)) (aA:Bool) (time:Int) (b0:aC) (hb:b0.n=3) (_:cw≤List.length x) (h1:F.ft l time) (h2:la < time):Sym.af Tryz.prog b0 [.code (aj Tryz.f22)] ⟨ay Tryz.f22 [.c (.ptr 0 0 0),.c (.ai 1 0 l.length aA),.c (.int .i64 time)],([.aY [.int .i64 r1,.int .i64 r2,.int .i64 r3,.int .i64 r4,.int .i64 r5,.int .i64 r6,.ai 2 0 cw du,.int .i64 nx,.int .i64 la],.aB 2 l,.aB 6 x]:Heap cod)⟩ (Sym.Ends Tryz.prog Tryz.f22 3 (.c (.int .i64 0)) []):=by
 refine af.go (cfg:=AL) mJ mixed kS 400 hb (aam r1 r2 r3 r4 r5 r6 x du cw nx la l aA time) ?_;have o1:=h1.1;have o2:=h1.2.1;simp only [T.wp,T.wp_cond,bF];exact ap (by rw [decide_eq_false (by simp only [Int.ofNat_eq_natCast];omega)];decide) (ap (by rw [decide_eq_false (by omega)];decide) (ap (by rw [decide_eq_false (by omega)];decide) (ap (by rw [decide_eq_false (by omega)];decide) (aal r1 r2 r3 r4 r5 r6 x du cw nx la l aA time h1 b0 hb l.length 0 (by omega)))))
noncomputable def Lu:aH cod:=fun args H=>match args,H with
 | [.c (.ptr 0 0 0),.c (.ai 1 cF cA _),.c (.int .i64 time)],[.aY [.int .i64 _,.int .i64 _,.int .i64 _,.int .i64 _,.int .i64 _,.int .i64 _,.ai 2 0 cw _,.int .i64 _,.int .i64 la],o1,o2]=>(match o1.cV 2 with | some l=>(match o2.cV 6 with | some x=>.aa ((cw≤List.length x)∧(cF=0∧cA=List.length l)∧(F.ft l time)∧(la < time)) (.ret (.c (.int .i64 0),[])) | none=>.fail) | none=>.fail)
 | _,_=>.fail
theorem Mv:Sound Tryz.prog cod 22 Lu:=ax (cfg:=AL) mJ mixed Tryz.func22 rfl rfl _ fun args H r news hg b0 hb=>by
 unfold Lu at hg;split at hg
 ·skip
  split at hg
  ·rename_i l yo;cases aR yo;split at hg
   ·rename_i x hx2;cases aR hx2;simp only [T.ah,T.wp,Prod.mk.injEq] at hg;obtain ⟨⟨q0,⟨rfl,rfl⟩,q2,q3⟩,rfl,rfl⟩:=hg;exact W6 _ _ _ _ _ _ _ _ _ _ _ _ _ _ b0 hb (by assumption) (by assumption) (by assumption)
   ·exact hg.elim
  ·exact hg.elim
 ·exact hg.elim
noncomputable def I5:aQ cod:=(22,.p Lu)::Se
noncomputable def sJ:aT cod:=c9 I5
theorem kI:cv Tryz.prog cod I5:=.cons Mv mJ
noncomputable def gC:bA:=[(3,[9,10,11,3],4)]
theorem Mz (r1 r2 r3 r4 r5 r6:Int) (x:List F.bJ) (du:Bool) (cw:Nat) (nx la:Int):aI sJ gC Tryz.f16.results.toList 2 400 [.code (aj Tryz.f16)] ⟨ay Tryz.f16 [.c (.ptr 0 0 0)],([.aY [.int .i64 r1,.int .i64 r2,.int .i64 r3,.int .i64 r4,.int .i64 r5,.int .i64 r6,.ai 1 0 cw du,.int .i64 nx,.int .i64 la],.aB 6 x]:Heap cod)⟩=
.ret (.cut (cutAt Tryz.f16 3) ⟨bc 10 [(3,.c (.own 3 0)),(5,.c (.ai 1 0 (cw) du)),(0,.c (.int .i64 (Int.ofNat cw))),(0,.c (.int .i64 0))],[.aY [.int .i64 r1,.int .i64 r2,.int .i64 r3,.int .i64 r4,.int .i64 r5,.int .i64 r6,.ai 1 0 (cw) du,.int .i64 nx,.int .i64 la],.aB 6 x,.own 4 [] 54,.own 4 [] 54]⟩):=by kernel_rfl
noncomputable def rU (r1 r2 r3 r4 r5 r6:Int) (x:List F.bJ) (du:Bool) (cw:Nat) (nx la:Int) (out:List F.cU) (on:Nat) (k:Int):St cod:=⟨bc 10 [(3,.c (.own 3 on)),(5,.c (.ai 1 0 (cw) du)),(0,.c (.int .i64 (Int.ofNat cw))),(0,.c (.int .i64 k))],([.aY [.int .i64 r1,.int .i64 r2,.int .i64 r3,.int .i64 r4,.int .i64 r5,.int .i64 r6,.ai 1 0 cw du,.int .i64 nx,.int .i64 la],.aB 6 x,.own 4 [] 54,.own 4 out 54]:Heap cod)⟩
theorem zS (r1 r2 r3 r4 r5 r6:Int) (x:List F.bJ) (du:Bool) (cw:Nat) (nx la:Int) (out:List F.cU) (on:Nat) (k:Int):aI sJ gC Tryz.f16.results.toList 2 400 (cutAt Tryz.f16 3) (rU r1 r2 r3 r4 r5 r6 x du cw nx la out on k)=
 cond (decide (k < Int.ofNat cw)) (
 .aa (((0:Int)≤k∧k < Int.ofNat cw)) (
 .aa (0+Int.toNat k < List.length x) (
 .aa (1=1) (
 .aa (on+1≤1000000) (
 .aa (ae (k+1)) (
 .ret (.cut (cutAt Tryz.f16 3) ⟨bc 10 [(3,.c (.own 3 (on+1))),(5,.c (.ai 1 0 (cw) du)),(0,.c (.int .i64 (Int.ofNat cw))),(0,.c (.int .i64 (k+1)))],[.aY [.int .i64 r1,.int .i64 r2,.int .i64 r3,.int .i64 r4,.int .i64 r5,.int .i64 r6,.ai 1 0 (cw) du,.int .i64 nx,.int .i64 la],.aB 6 x,.own 4 [] 54,.own 4 (out++([(List.getD x (0+Int.toNat k) (cod 6).d).f])) 54]⟩))))))) (
 .ret (.fin (.c (.own 2 (on))) [.own 4 out 54])):=by kernel_rfl
theorem et {α:Type} (l:List α) (d:α) (k:Nat) (h:k < l.length):l.take (k+1)=l.take k++[l.getD k d]:=by
 rw [←List.take_append_getElem h,List.getD_eq_getElem?_getD,List.getElem?_eq_getElem h];rfl
theorem My (r1 r2 r3 r4 r5 r6:Int) (x:List F.bJ) (du:Bool) (cw:Nat) (nx la:Int) (hx:cw≤x.length) (YN:cw≤100) (b0:aC) (hb:b0.n=2):∀(r k:Nat),k+r=cw→
 Sym.af Tryz.prog b0 (cutAt Tryz.f16 3) (rU r1 r2 r3 r4 r5 r6 x du cw nx la ((x.take k).map F.bJ.f) k (k:Int)) (Sym.Ends Tryz.prog Tryz.f16 2 (.c (.own 2 cw)) [.own 4 ((x.take cw).map F.bJ.f) 54]):=by
 intro r
 induction r with
 | zero=>
   intro k hk;have e:k=cw:=by omega
   subst e;refine af.go (cfg:=sJ) kI mixed gC 400 hb (zS r1 r2 r3 r4 r5 r6 x du k nx la _ k (k:Int)) ?_;simp only [T.wp,T.wp_cond,bF]
   exact ap (by rw [decide_eq_false (by simp only [Int.ofNat_eq_natCast];omega)];decide) ⟨trivial,rfl⟩
 | succ r ih=>
   intro k hk;have hkx:k < x.length:=by omega
   have fK:=ih (k+1) (by omega);rw [Int.natCast_succ,et x F.eK k hkx,List.map_append] at fK;refine af.go (cfg:=sJ) kI mixed gC 400 hb (zS r1 r2 r3 r4 r5 r6 x du cw nx la _ k (k:Int)) ?_;simp only [T.wp,T.wp_cond,bF,Int.toNat_natCast,Nat.zero_add];exact aq (decide_eq_true (by simp only [Int.ofNat_eq_natCast];omega)) ⟨by simp only [Int.ofNat_eq_natCast];omega,hkx,trivial,by omega,by unfold ae;omega,fK⟩
theorem H4 (r1 r2 r3 r4 r5 r6:Int) (x:List F.bJ) (du:Bool) (cw:Nat) (nx la:Int) (b0:aC) (hb:b0.n=2) (h0:cw≤List.length x) (h1:cw≤100):Sym.af Tryz.prog b0 [.code (aj Tryz.f16)] ⟨ay Tryz.f16 [.c (.ptr 0 0 0)],([.aY [.int .i64 r1,.int .i64 r2,.int .i64 r3,.int .i64 r4,.int .i64 r5,.int .i64 r6,.ai 1 0 cw du,.int .i64 nx,.int .i64 la],.aB 6 x]:Heap cod)⟩ (Sym.Ends Tryz.prog Tryz.f16 2 (.c (.own 2 cw)) [.own 4 ((x.take cw).map F.bJ.f) 54]):=by
 refine af.go (cfg:=sJ) kI mixed gC 400 hb (Mz r1 r2 r3 r4 r5 r6 x du cw nx la) ?_;simp only [T.wp,bF];exact My r1 r2 r3 r4 r5 r6 x du cw nx la h0 h1 b0 hb cw 0 (by omega)
noncomputable def ue:aH cod:=fun args H=>match args,H with
 | [.c (.ptr 0 0 0)],[.aY [.int .i64 _,.int .i64 _,.int .i64 _,.int .i64 _,.int .i64 _,.int .i64 _,.ai 1 0 cw _,.int .i64 _,.int .i64 _],o1]=>(match o1.cV 6 with | some x=>.aa ((cw≤List.length x)∧(cw≤100)) (.ret (.c (.own 2 cw),[.own 4 ((x.take cw).map F.bJ.f) 54])) | none=>.fail)
 | _,_=>.fail
theorem AE:Sound Tryz.prog cod 16 ue:=ax (cfg:=sJ) kI mixed Tryz.func16 rfl rfl _ fun args H r news hg b0 hb=>by
 unfold ue at hg;split at hg
 ·skip
  split at hg
  ·rename_i x yo;cases aR yo;simp only [T.ah,T.wp,Prod.mk.injEq] at hg;obtain ⟨⟨q0,q1⟩,rfl,rfl⟩:=hg;exact H4 _ _ _ _ _ _ _ _ _ _ _ b0 hb (by assumption) (by assumption)
  ·exact hg.elim
 ·exact hg.elim
noncomputable def td:aQ cod:=(16,.p ue)::I5
noncomputable def sL:aT cod:=c9 td
theorem lJ:cv Tryz.prog cod td:=.cons AE kI
namespace F
noncomputable def fq {α:Type} (p:α→Bool):List α→Int→Int
 | [],_=>-1
 | x::l,i=>if p x=true then i else fq p l (i+1)
noncomputable def mo (x:bJ) (f:cU):Bool:=decide (f.t.id=x.f.t.id)
noncomputable def cid (x:bJ) (l:List cU):Bool:=decide (0≤fq (mo x) l 0)
noncomputable def del (nw:List cU) (time:Int) (x:bJ):Bool:=decide (x.f.t.tm=time)&&!(cid x nw)
end F
noncomputable def FW:bA:=[]
theorem ab6 (f:F.cU) (x:F.bJ):aI sL FW Tryz.f71.results.toList 1 400 [.code (aj Tryz.f71)] ⟨ay Tryz.f71 [.agg (ko.enc f),.c (.ptr 0 0 0)],([.aY (FB.enc x)]:Heap cod)⟩=
.ret (.fin (.c (.bool (decide (f.t.id=x.f.t.id)))) []):=by kernel_rfl
theorem YA (f:F.cU) (x:F.bJ) (b0:aC) (hb:b0.n=1):Sym.af Tryz.prog b0 [.code (aj Tryz.f71)] ⟨ay Tryz.f71 [.agg (ko.enc f),.c (.ptr 0 0 0)],([.aY (FB.enc x)]:Heap cod)⟩ (Sym.Ends Tryz.prog Tryz.f71 1 (.c (.bool (F.mo x f))) []):=by
 refine af.go (cfg:=sL) lJ mixed FW 400 hb (ab6 f x) ?_;exact ⟨rfl,rfl⟩
noncomputable def Wi:aH cod:=fun args H=>match args,H with
 | [.agg F5,.c (.ptr 0 0 0)],[.aY zV]=>(match ko.ok F5 with | true=>(fun f:F.cU=>(match FB.ok zV with | true=>(fun x:F.bJ=>.ret (.c (.bool (F.mo x f)),[])) (FB.dec zV) | false=>.fail)) (ko.dec F5) | false=>.fail)
 | _,_=>.fail
theorem O5:Sound Tryz.prog cod 71 Wi:=ax (cfg:=sL) lJ mixed Tryz.func71 rfl rfl _ fun args H r news hg b0 hb=>by
 unfold Wi at hg;split at hg
 ·skip
  split at hg
  ·rename_i Uq;obtain ⟨f,rfl,TI⟩:=aO.back Uq;rw [TI] at hg
   try dsimp only at hg
   split at hg
   ·rename_i J8;obtain ⟨x,rfl,JL⟩:=aO.back J8;rw [JL] at hg
    try dsimp only at hg
    cases hg;exact YA _ _ b0 hb
   ·exact hg.elim
  ·exact hg.elim
 ·exact hg.elim
noncomputable def Sd:aQ cod:=(71,.p Wi)::td
noncomputable def AK:aT cod:=c9 Sd
theorem mI:cv Tryz.prog cod Sd:=.cons O5 lJ
noncomputable def nc:bA:=[(2,[0,1,7,8],2)]
theorem acY (l:List F.cU) (aA:Bool) (x:F.bJ):aI AK nc Tryz.f102.results.toList 2 400 [.code (aj Tryz.f102)] ⟨ay Tryz.f102 [.c (.ai 0 0 l.length aA),.c (.fn 71 [(1,0,0)])],([.aB 4 l,.aY (FB.enc x)]:Heap cod)⟩=
.ret (.cut (cutAt Tryz.f102 2) ⟨bc 10 [(0,.c (.ai 0 0 l.length aA)),(0,.c (.fn 71 [(1,0,0)])),(5,.c (.int .i64 (Int.ofNat l.length))),(0,.c (.int .i64 0))],[.aB 4 l,.aY [.int .i64 x.f.t.id,.int .i64 x.f.t.st,.int .i64 x.f.t.tm,.int .i64 x.f.t.x,.int .i64 x.f.t.y,.int .i64 x.f.t.sx,.int .i64 x.f.t.sy,.int .i64 x.f.t.hg,.int .i64 x.f.t.rt,.int .i64 x.f.t.ra,.int .i64 x.f.t.cd,.int .i64 x.f.t.ht,.int .i64 x.f.t.ms,.int .i64 x.f.sl,.int .i64 x.f.lt,.int .i64 x.f.lx,.int .i64 x.f.ly,.int .i64 x.f.lh,.int .i64 x.f.lc,.int .i64 x.f.le,.int .i64 x.bh,.int .i64 x.bs,.bool x.fI]]⟩):=by kernel_rfl
noncomputable def HQ (l:List F.cU) (aA:Bool) (x:F.bJ) (i:Int):St cod:=⟨bc 10 [(0,.c (.ai 0 0 l.length aA)),(0,.c (.fn 71 [(1,0,0)])),(5,.c (.int .i64 (Int.ofNat l.length))),(0,.c (.int .i64 i))],[.aB 4 l,.aY [.int .i64 x.f.t.id,.int .i64 x.f.t.st,.int .i64 x.f.t.tm,.int .i64 x.f.t.x,.int .i64 x.f.t.y,.int .i64 x.f.t.sx,.int .i64 x.f.t.sy,.int .i64 x.f.t.hg,.int .i64 x.f.t.rt,.int .i64 x.f.t.ra,.int .i64 x.f.t.cd,.int .i64 x.f.t.ht,.int .i64 x.f.t.ms,.int .i64 x.f.sl,.int .i64 x.f.lt,.int .i64 x.f.lx,.int .i64 x.f.ly,.int .i64 x.f.lh,.int .i64 x.f.lc,.int .i64 x.f.le,.int .i64 x.bh,.int .i64 x.bs,.bool x.fI]]⟩
theorem UP (l:List F.cU) (aA:Bool) (x:F.bJ) (i:Int):aI AK nc Tryz.f102.results.toList 2 400 (cutAt Tryz.f102 2) (HQ l aA x i)=
 (let q0:=List.length l;
 cond (decide (i < Int.ofNat q0)) (.aa (((0:Int)≤i∧i < Int.ofNat q0)) (.aa (0+Int.toNat i < List.length l) (cond (F.mo x (List.getD l (0+Int.toNat i) (cod 4).d)) (.ret (.fin (.c (.int .i64 i)) [])) (.aa (ae (i+1)) (.ret (.cut (cutAt Tryz.f102 2) ⟨bc 10 [(0,.c (.ai 0 0 q0 aA)),(0,.c (.fn 71 [(1,0,0)])),(5,.c (.int .i64 (Int.ofNat q0))),(0,.c (.int .i64 (i+1)))],[.aB 4 l,.aY [.int .i64 x.f.t.id,.int .i64 x.f.t.st,.int .i64 x.f.t.tm,.int .i64 x.f.t.x,.int .i64 x.f.t.y,.int .i64 x.f.t.sx,.int .i64 x.f.t.sy,.int .i64 x.f.t.hg,.int .i64 x.f.t.rt,.int .i64 x.f.t.ra,.int .i64 x.f.t.cd,.int .i64 x.f.t.ht,.int .i64 x.f.t.ms,.int .i64 x.f.sl,.int .i64 x.f.lt,.int .i64 x.f.lx,.int .i64 x.f.ly,.int .i64 x.f.lh,.int .i64 x.f.lc,.int .i64 x.f.le,.int .i64 x.bh,.int .i64 x.bs,.bool x.fI]]⟩)))))) (.ret (.fin (.c (.int .i64 (-1))) []))):=by kernel_rfl
theorem acX (l:List F.cU) (aA:Bool) (x:F.bJ) (YN:l.length≤100) (b0:aC) (hb:b0.n=2) (R:Int):∀(r k:Nat),k+r=l.length→F.fq (F.mo x) (l.drop k) (k:Int)=R→
 Sym.af Tryz.prog b0 (cutAt Tryz.f102 2) (HQ l aA x (k:Int)) (Sym.Ends Tryz.prog Tryz.f102 2 (.c (.int .i64 R)) []):=by
 intro r
 induction r with
 | zero=>
   intro k hk hR;rw [List.drop_eq_nil_of_le (by omega),F.fq] at hR;subst hR;refine af.go (cfg:=AK) mI mixed nc 400 hb (UP l aA x (k:Int)) ?_;simp only [T.wp,T.wp_cond,bF]
   exact ap (by rw [decide_eq_false (by simp only [Int.ofNat_eq_natCast];omega)];decide) ⟨trivial,trivial⟩
 | succ r ih=>
   intro k hk hR;have fx:k < l.length:=by omega
   rw [uQ l F.Mt k fx,F.fq] at hR;refine af.go (cfg:=AK) mI mixed nc 400 hb (UP l aA x (k:Int)) ?_;simp only [T.wp,T.wp_cond,bF,Int.toNat_natCast,Nat.zero_add];refine aq (decide_eq_true (by simp only [Int.ofNat_eq_natCast];omega)) ⟨by simp only [Int.ofNat_eq_natCast];omega,fx,?_⟩;have key:(if (F.mo x) (l.getD k F.Mt)=true then (k:Int) else F.fq (F.mo x) (l.drop (k+1)) ((k:Int)+1))=R:=hR
   cases c:(F.mo x) (l.getD k F.Mt) with
   | true=>
     rw [c,if_pos rfl] at key;subst key
     exact aq c (by first | exact ⟨rfl,rfl⟩ | exact ⟨rfl,trivial⟩ | exact ⟨trivial,rfl⟩ | exact ⟨trivial,trivial⟩)
   | false=>
     rw [c,if_neg (by decide)] at key;have nx:=ih (k+1) (by omega) (by rw [Int.natCast_succ];exact key);rw [Int.natCast_succ] at nx;exact ap (by rw [show (F.mo x) (List.getD l k (cod 4).d)=false from c];decide) ⟨by unfold ae;omega,nx⟩
theorem Y9 (l:List F.cU) (aA:Bool) (x:F.bJ) (b0:aC) (hb:b0.n=2) (h0:List.length l≤100):Sym.af Tryz.prog b0 [.code (aj Tryz.f102)] ⟨ay Tryz.f102 [.c (.ai 0 0 l.length aA),.c (.fn 71 [(1,0,0)])],([.aB 4 l,.aY (FB.enc x)]:Heap cod)⟩ (Sym.Ends Tryz.prog Tryz.f102 2 (.c (.int .i64 (F.fq (F.mo x) l 0))) []):=by
 refine af.go (cfg:=AK) mI mixed nc 400 hb (acY l aA x) ?_;exact acX l aA x h0 b0 hb _ l.length 0 (by omega) rfl
noncomputable def Wo:aH cod:=fun args H=>match args,H with
 | [.c (.ai 0 cF cA _),.c (.fn 71 [(1,0,0)])],[o0,.aY zV]=>(match FB.ok zV with | true=>(fun x:F.bJ=>(match o0.cV 4 with | some l=>.aa ((cF=0∧cA=List.length l)∧(List.length l≤100)) (.ret (.c (.int .i64 (F.fq (F.mo x) l 0)),[])) | none=>.fail)) (FB.dec zV) | false=>.fail)
 | _,_=>.fail
theorem PF:Sound Tryz.prog cod 102 Wo:=ax (cfg:=AK) mI mixed Tryz.func102 rfl rfl _ fun args H r news hg b0 hb=>by
 unfold Wo at hg;split at hg
 ·skip
  split at hg
  ·rename_i J8;obtain ⟨x,rfl,JL⟩:=aO.back J8;rw [JL] at hg
   try dsimp only at hg
   split at hg
   ·rename_i l gG;cases aR gG;simp only [T.ah,T.wp,Prod.mk.injEq] at hg;obtain ⟨⟨⟨rfl,rfl⟩,q1⟩,rfl,rfl⟩:=hg;exact Y9 _ _ _ b0 hb (by assumption)
   ·exact hg.elim
  ·exact hg.elim
 ·exact hg.elim
noncomputable def Sk:aQ cod:=(102,.p Wo)::Sd
noncomputable def RO:aT cod:=c9 Sk
theorem wR:cv Tryz.prog cod Sk:=.cons PF mI
noncomputable def Bb:bA:=[]
theorem Yf (l:List F.cU) (aA:Bool) (x:F.bJ):aI RO Bb Tryz.f70.results.toList 2 400 [.code (aj Tryz.f70)] ⟨ay Tryz.f70 [.c (.ai 0 0 l.length aA),.c (.fn 71 [(1,0,0)])],([.aB 4 l,.aY (FB.enc x)]:Heap cod)⟩=
.aa (((0=0∧List.length l=List.length l)∧List.length l≤100)) (
.ret (.fin (.c (.bool (decide (0≤F.fq (F.mo x) l 0)))) [])):=by kernel_rfl
theorem Tl (l:List F.cU) (aA:Bool) (x:F.bJ) (b0:aC) (hb:b0.n=2) (h0:List.length l≤100):Sym.af Tryz.prog b0 [.code (aj Tryz.f70)] ⟨ay Tryz.f70 [.c (.ai 0 0 l.length aA),.c (.fn 71 [(1,0,0)])],([.aB 4 l,.aY (FB.enc x)]:Heap cod)⟩ (Sym.Ends Tryz.prog Tryz.f70 2 (.c (.bool (F.cid x l))) []):=by
 refine af.go (cfg:=RO) wR mixed Bb 400 hb (Yf l aA x) ?_;simp only [T.wp,bF];exact ⟨⟨⟨trivial,trivial⟩,h0⟩,rfl,trivial⟩
noncomputable def K3:aH cod:=fun args H=>match args,H with
 | [.c (.ai 0 cF cA _),.c (.fn 71 [(1,0,0)])],[o0,.aY zV]=>(match FB.ok zV with | true=>(fun x:F.bJ=>(match o0.cV 4 with | some l=>.aa ((cF=0∧cA=List.length l)∧(List.length l≤100)) (.ret (.c (.bool (F.cid x l)),[])) | none=>.fail)) (FB.dec zV) | false=>.fail)
 | _,_=>.fail
theorem Jw:Sound Tryz.prog cod 70 K3:=ax (cfg:=RO) wR mixed Tryz.func70 rfl rfl _ fun args H r news hg b0 hb=>by
 unfold K3 at hg;split at hg
 ·skip
  split at hg
  ·rename_i J8;obtain ⟨x,rfl,JL⟩:=aO.back J8;rw [JL] at hg
   try dsimp only at hg
   split at hg
   ·rename_i l gG;cases aR gG;simp only [T.ah,T.wp,Prod.mk.injEq] at hg;obtain ⟨⟨⟨rfl,rfl⟩,q1⟩,rfl,rfl⟩:=hg;exact Tl _ _ _ b0 hb (by assumption)
   ·exact hg.elim
  ·exact hg.elim
 ·exact hg.elim
noncomputable def IK:aQ cod:=(70,.p K3)::Sk
noncomputable def Is:aT cod:=c9 IK
theorem sT:cv Tryz.prog cod IK:=.cons Jw wR
noncomputable def FV:bA:=[]
theorem ab5 (x:F.bJ) (time:Int) (nw:List F.cU) (jT:Bool):aI Is FV Tryz.f69.results.toList 3 400 [.code (aj Tryz.f69)] ⟨ay Tryz.f69 [.agg (FB.enc x),.c (.ptr 0 0 0),.c (.ptr 1 0 0)],([.aY [.int .i64 time],.aY [.ai 2 0 nw.length jT],.aB 4 nw]:Heap cod)⟩=
 cond (decide (x.f.t.tm=time)) (
 .aa (((0=0∧List.length nw=List.length nw)∧List.length nw≤100)) (
 .ret (.fin (.c (.bool (!F.cid x nw))) []))) (
 .ret (.fin (.c (.bool false)) [])):=by kernel_rfl
theorem Yz (x:F.bJ) (time:Int) (nw:List F.cU) (jT:Bool) (b0:aC) (hb:b0.n=3) (h0:List.length nw≤100):Sym.af Tryz.prog b0 [.code (aj Tryz.f69)] ⟨ay Tryz.f69 [.agg (FB.enc x),.c (.ptr 0 0 0),.c (.ptr 1 0 0)],([.aY [.int .i64 time],.aY [.ai 2 0 nw.length jT],.aB 4 nw]:Heap cod)⟩ (Sym.Ends Tryz.prog Tryz.f69 3 (.c (.bool (F.del nw time x))) []):=by
 refine af.go (cfg:=Is) sT mixed FV 400 hb (ab5 x time nw jT) ?_;simp only [T.wp,T.wp_cond,bF];unfold F.del;by_cases c:x.f.t.tm=time
 ·rw [decide_eq_true c,Bool.true_and];exact aq rfl ⟨⟨⟨trivial,trivial⟩,h0⟩,rfl,trivial⟩
 ·rw [decide_eq_false c,Bool.false_and];exact ap (by decide) ⟨rfl,trivial⟩
noncomputable def Wh:aH cod:=fun args H=>match args,H with
 | [.agg zV,.c (.ptr 0 0 0),.c (.ptr 1 0 0)],[.aY [.int .i64 time],.aY [.ai 2 adf adg _],o2]=>(match FB.ok zV with | true=>(fun x:F.bJ=>(match o2.cV 4 with | some nw=>.aa ((adf=0∧adg=List.length nw)∧(List.length nw≤100)) (.ret (.c (.bool (F.del nw time x)),[])) | none=>.fail)) (FB.dec zV) | false=>.fail)
 | _,_=>.fail
theorem O4:Sound Tryz.prog cod 69 Wh:=ax (cfg:=Is) sT mixed Tryz.func69 rfl rfl _ fun args H r news hg b0 hb=>by
 unfold Wh at hg;split at hg
 ·skip
  split at hg
  ·rename_i J8;obtain ⟨x,rfl,JL⟩:=aO.back J8;rw [JL] at hg
   try dsimp only at hg
   split at hg
   ·rename_i nw hx2;cases aR hx2;simp only [T.ah,T.wp,Prod.mk.injEq] at hg;obtain ⟨⟨⟨rfl,rfl⟩,q1⟩,rfl,rfl⟩:=hg;exact Yz _ _ _ _ b0 hb (by assumption)
   ·exact hg.elim
  ·exact hg.elim
 ·exact hg.elim
noncomputable def Sb:aQ cod:=(69,.p Wh)::IK
noncomputable def AJ:aT cod:=c9 Sb
theorem mH:cv Tryz.prog cod Sb:=.cons O4 sT
noncomputable def nd:bA:=[(2,[0,1,7,8],4)]
theorem ac0 (l:List F.bJ) (aA:Bool) (time:Int) (nw:List F.cU) (jT:Bool):aI AJ nd Tryz.f101.results.toList 4 400 [.code (aj Tryz.f101)] ⟨ay Tryz.f101 [.c (.ai 0 0 l.length aA),.c (.fn 69 [(1,0,0),(2,0,0)])],([.aB 6 l,.aY [.int .i64 time],.aY [.ai 3 0 nw.length jT],.aB 4 nw]:Heap cod)⟩=
.ret (.cut (cutAt Tryz.f101 2) ⟨bc 10 [(0,.c (.ai 0 0 l.length aA)),(0,.c (.fn 69 [(1,0,0),(2,0,0)])),(5,.c (.int .i64 (Int.ofNat l.length))),(0,.c (.int .i64 0))],[.aB 6 l,.aY [.int .i64 time],.aY [.ai 3 0 nw.length jT],.aB 4 nw]⟩):=by kernel_rfl
noncomputable def HR (l:List F.bJ) (aA:Bool) (time:Int) (nw:List F.cU) (jT:Bool) (i:Int):St cod:=⟨bc 10 [(0,.c (.ai 0 0 l.length aA)),(0,.c (.fn 69 [(1,0,0),(2,0,0)])),(5,.c (.int .i64 (Int.ofNat l.length))),(0,.c (.int .i64 i))],[.aB 6 l,.aY [.int .i64 time],.aY [.ai 3 0 nw.length jT],.aB 4 nw]⟩
theorem UQ (l:List F.bJ) (aA:Bool) (time:Int) (nw:List F.cU) (jT:Bool) (i:Int):aI AJ nd Tryz.f101.results.toList 4 400 (cutAt Tryz.f101 2) (HR l aA time nw jT i)=
 (let q0:=List.length l;
 cond (decide (i < Int.ofNat q0)) (.aa (((0:Int)≤i∧i < Int.ofNat q0)) (.aa (0+Int.toNat i < List.length l) (.aa (((0=0∧List.length nw=List.length nw)∧List.length nw≤100)) (cond (F.del nw time (List.getD l (0+Int.toNat i) (cod 6).d)) (.ret (.fin (.c (.int .i64 i)) [])) (.aa (ae (i+1)) (.ret (.cut (cutAt Tryz.f101 2) ⟨bc 10 [(0,.c (.ai 0 0 q0 aA)),(0,.c (.fn 69 [(1,0,0),(2,0,0)])),(5,.c (.int .i64 (Int.ofNat q0))),(0,.c (.int .i64 (i+1)))],[.aB 6 l,.aY [.int .i64 time],.aY [.ai 3 0 nw.length jT],.aB 4 nw]⟩))))))) (.ret (.fin (.c (.int .i64 (-1))) []))):=by kernel_rfl
theorem acZ (l:List F.bJ) (aA:Bool) (time:Int) (nw:List F.cU) (jT:Bool) (hn:nw.length≤100) (YN:l.length≤100) (b0:aC) (hb:b0.n=4) (R:Int):∀(r k:Nat),k+r=l.length→F.fq (F.del nw time) (l.drop k) (k:Int)=R→
 Sym.af Tryz.prog b0 (cutAt Tryz.f101 2) (HR l aA time nw jT (k:Int)) (Sym.Ends Tryz.prog Tryz.f101 4 (.c (.int .i64 R)) []):=by
 intro r
 induction r with
 | zero=>
   intro k hk hR;rw [List.drop_eq_nil_of_le (by omega),F.fq] at hR;subst hR;refine af.go (cfg:=AJ) mH mixed nd 400 hb (UQ l aA time nw jT (k:Int)) ?_;simp only [T.wp,T.wp_cond,bF]
   exact ap (by rw [decide_eq_false (by simp only [Int.ofNat_eq_natCast];omega)];decide) ⟨trivial,trivial⟩
 | succ r ih=>
   intro k hk hR;have fx:k < l.length:=by omega
   rw [uQ l F.eK k fx,F.fq] at hR;refine af.go (cfg:=AJ) mH mixed nd 400 hb (UQ l aA time nw jT (k:Int)) ?_;simp only [T.wp,T.wp_cond,bF,Int.toNat_natCast,Nat.zero_add];refine aq (decide_eq_true (by simp only [Int.ofNat_eq_natCast];omega)) ⟨by simp only [Int.ofNat_eq_natCast];omega,fx,?_⟩;have key:(if (F.del nw time) (l.getD k F.eK)=true then (k:Int) else F.fq (F.del nw time) (l.drop (k+1)) ((k:Int)+1))=R:=hR
   cases c:(F.del nw time) (l.getD k F.eK) with
   | true=>
     rw [c,if_pos rfl] at key;subst key
     exact ⟨⟨⟨trivial,trivial⟩,hn⟩,aq c (by first | exact ⟨rfl,rfl⟩ | exact ⟨rfl,trivial⟩ | exact ⟨trivial,rfl⟩ | exact ⟨trivial,trivial⟩)⟩
   | false=>
     rw [c,if_neg (by decide)] at key;have nx:=ih (k+1) (by omega) (by rw [Int.natCast_succ];exact key);rw [Int.natCast_succ] at nx;exact ⟨⟨⟨trivial,trivial⟩,hn⟩,ap (by rw [show (F.del nw time) (List.getD l k (cod 6).d)=false from c];decide) ⟨by unfold ae;omega,nx⟩⟩
theorem Za (l:List F.bJ) (aA:Bool) (time:Int) (nw:List F.cU) (jT:Bool) (b0:aC) (hb:b0.n=4) (h0:List.length nw≤100) (h1:List.length l≤100):Sym.af Tryz.prog b0 [.code (aj Tryz.f101)] ⟨ay Tryz.f101 [.c (.ai 0 0 l.length aA),.c (.fn 69 [(1,0,0),(2,0,0)])],([.aB 6 l,.aY [.int .i64 time],.aY [.ai 3 0 nw.length jT],.aB 4 nw]:Heap cod)⟩ (Sym.Ends Tryz.prog Tryz.f101 4 (.c (.int .i64 (F.fq (F.del nw time) l 0))) []):=by
 refine af.go (cfg:=AJ) mH mixed nd 400 hb (ac0 l aA time nw jT) ?_;exact acZ l aA time nw jT h0 h1 b0 hb _ l.length 0 (by omega) rfl
noncomputable def Wp:aH cod:=fun args H=>match args,H with
 | [.c (.ai 0 cF cA _),.c (.fn 69 [(1,0,0),(2,0,0)])],[o0,.aY [.int .i64 time],.aY [.ai 3 adf adg _],o3]=>(match o0.cV 6 with | some l=>(match o3.cV 4 with | some nw=>.aa ((cF=0∧cA=List.length l)∧(adf=0∧adg=List.length nw)∧(List.length nw≤100)∧(List.length l≤100)) (.ret (.c (.int .i64 (F.fq (F.del nw time) l 0)),[])) | none=>.fail) | none=>.fail)
 | _,_=>.fail
theorem PG:Sound Tryz.prog cod 101 Wp:=ax (cfg:=AJ) mH mixed Tryz.func101 rfl rfl _ fun args H r news hg b0 hb=>by
 unfold Wp at hg;split at hg
 ·skip
  split at hg
  ·rename_i l gG;cases aR gG;split at hg
   ·rename_i nw hx3;cases aR hx3;simp only [T.ah,T.wp,Prod.mk.injEq] at hg;obtain ⟨⟨⟨rfl,rfl⟩,⟨rfl,rfl⟩,q2,q3⟩,rfl,rfl⟩:=hg;exact Za _ _ _ _ _ b0 hb (by assumption) (by assumption)
   ·exact hg.elim
  ·exact hg.elim
 ·exact hg.elim
noncomputable def Sl:aQ cod:=(101,.p Wp)::Sb
noncomputable def qt:aT cod:=c9 Sl
theorem mK:cv Tryz.prog cod Sl:=.cons PG mH
end
end
namespace Sym
open Go.RowKit
section
variable {cod:Nat→aO} {P:Program}
noncomputable def av.jz (t:Nat) (ty:TypeId):av cod→Option (List (cod t).α)
 | .own u l mw=>if h:u=t then (if mw=ty then some (h▸l) else none) else none
 | _=>none
theorem dY {t:Nat} {ty:TypeId} {o:av cod} {l:List (cod t).α} (h:o.jz t ty=some l):o= .own t l ty:=by
 unfold av.jz at h;split at h
 ·split at h
  ·rename_i e;subst e;split at h
   ·rename_i e;subst e;cases h;rfl
   ·cases h
  ·cases h
 ·cases h
end
end Sym
namespace Sym
open Go.RowKit
section
variable {cod:Nat→aO}
end
end Sym
namespace Sym
open Go.RowKit
section
variable {cod:Nat→aO} {P:Program}
noncomputable def Lf (c:List SV→Heap cod→Bool) (s1 s2:aH cod):aH cod:=fun args H=>.ite (c args H) (s1 args H) (s2 args H)
theorem dz.aim {g:FuncId} {kp:Bool} {c:List SV→Heap cod→Bool} {s1 s2:aH cod} (h1:dz P cod g kp s1) (h2:dz P cod g kp s2):dz P cod g kp (Lf c s1 s2):=by
 refine ⟨h1.enters,fun args H env w vs r H' G ha hg=>?_⟩;unfold Lf at hg
 cases hc:c args H with
 | true=>exact h1.calls args H env w vs r H' G ha (hg.1 hc)
 | false=>exact h2.calls args H env w vs r H' G ha (hg.2 hc)
end
end Sym
end Go.Proofs.YtcjagpfbhnmggaaGreatDoor
