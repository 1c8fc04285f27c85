/- Parts of the proof. -/
import Derived.Test.YtcjagpfbhnmggaaGreatDoorBd26
namespace Go.Proofs.YtcjagpfbhnmggaaGreatDoor
section
open Sym Go.RowKit
noncomputable section
set_option maxRecDepth 100000
set_option maxHeartbeats 4000000
namespace F
def wr (n:Int):Bool:=decide (n < 0)||decide (60000 < n)
def RD (x:Sp):Int:=spot x.1 x.2.1 x.2.2.1 x.2.2.2.1 x.2.2.2.2.1 x.2.2.2.2.2
def J2 (l:List Sp):Nat→Nat→Int
 | 0,_=>0
 | m+1,j=>if RD (l.getD j dq)=0 then J2 l m (j+1) else RD (l.getD j dq)
def wm (l:List Sp) (band:Int):Int:=if 128 < l.length then 2 else (if J2 l l.length 0=0 then (if wr band then 4 else 0) else J2 l l.length 0)
def dd (band:Int):List Sp→List Sp→List Sp
 | [],os=>os
 | s::l,os=>dd band l (if vw (zX band s) os os.length 0 then os else os++[s])
def bI (l:List Sp) (band:Int):List Sp:=dd band (iE l) []
end F
def EE:aH cod:=fun args _=>match args with
 | .c (.ai _ _ n _)::fs=>if tA fs=some [49] then .aa (n=0) (.ret (.aP [],[])) else .fail
 | _=>.fail
def EG:aH cod:=fun args H=>match H with
 | []=>match rd args with
   | some [[n]]=>(.ret (.c (.bool (F.wr n)),[]))
   | _=>.fail
 | _=>.fail
theorem MG (n:Int):aI RK [] Tryz.f47.results.toList ([]:Heap cod).length 400 [.code (aj Tryz.f47)] ⟨ay Tryz.f47 [.c (.int .i64 n)],[]⟩=
 cond (decide (n < 0)) (
 .ret (.fin (.c (.bool true)) [])) (
 .ret (.fin (.c (.bool (decide (60000 < n)))) [])):=by kernel_rfl
theorem Ib:Sound Tryz.prog cod 47 EG:=aW (cfg:=RK) AO mixed Tryz.func47 rfl rfl _ 400 fun args H r news hg=>by
 unfold EG at hg;split at hg
 ·split at hg
  ·rename_i n dn;have aJ:=b8 dn;simp only [List.map,oS] at aJ;subst aJ;clear dn;rw [MG];simp only [T.ah,T.wp,Prod.mk.injEq] at hg;obtain ⟨rfl,rfl⟩:=hg;simp only [T.wp,T.wp_cond,Fin.fin.injEq,SV.c.injEq,Cell.bool.injEq,and_true,decide_eq_true_eq];unfold F.wr;by_cases h1:n < 0<;>by_cases h2:60000 < n<;>simp [h1,h2]
  ·exact hg.elim
 ·exact hg.elim
def CT:aQ cod:=(47,.p EG)::IJ
theorem xj:cv Tryz.prog cod CT:=.cons Ib AO
theorem Hy:Sound Tryz.prog cod 48 EE:=by
 refine ⟨vc.enters,fun args H env w vs r news gF G ha hg=>?_⟩;unfold EE at hg;split at hg
 ·rename_i x i n t fs;split at hg
  ·rename_i hex;obtain ⟨hn,hr⟩:=hg;subst hn;cases hr
   cases ha with
   | @cons _ v0 _ vs hx iP=>
     have ym:=gX hex iP;subst ym;obtain ⟨hN,A,c,rfl,h1,h2,h3,h4⟩:=hx;refine (zm A c w).mono ?_;rintro e w' ⟨rfl,rfl⟩;exact ⟨_,env,rfl,eH.refl _ _,⟨#[],rfl,.nil⟩,by simpa using G,⟨Below.refl _ _,Nat.le_refl _⟩⟩
  ·exact hg.elim
 ·exact hg.elim
def MP:aQ cod:=(48,.p EE)::CT
def nY:aT cod:=c9 MP
theorem pL:cv Tryz.prog cod MP:=.cons Hy xj
def fV:bA:=[(4,[16,3,0,17,18],3),(16,[3,34,35,36,10],4)]
theorem QT (l:List (Int×Int×Int×Int×Int×Int)) (aA:Bool) (band:Int):aI nY fV Tryz.f23.results.toList 1 400 [.code (aj Tryz.f23)] ⟨ay Tryz.f23 [.c (.ai 0 0 l.length aA),.c (.int .i64 band)],([.aB 2 l]:Heap cod)⟩=
 (let q0:=List.length l;
 cond (decide (128 < Int.ofNat q0)) (.ret (.fin (.aP [.c (.own 1 0),.c (.int .i64 2)]) [.own 2 [] 42])) (.ret (.cut (cutAt Tryz.f23 4) ⟨bc 31 [(0,.c (.ai 0 0 q0 aA)),(2,.c (.ptr 1 0 0)),(12,.c (.ai 0 0 q0 aA)),(0,.c (.int .i64 (Int.ofNat q0))),(0,.c (.int .i64 0))],[.aB 2 l,.aF [.int .i64 band] 3,.own 2 [] 42]⟩))):=by kernel_rfl
def HU (l:List (Int×Int×Int×Int×Int×Int)) (aA:Bool) (band:Int) (k:Int):St cod:=⟨bc 31 [(0,.c (.ai 0 0 l.length aA)),(2,.c (.ptr 1 0 0)),(12,.c (.ai 0 0 l.length aA)),(0,.c (.int .i64 (Int.ofNat l.length))),(0,.c (.int .i64 k))],[.aB 2 l,.aF [.int .i64 band] 3,.own 2 [] 42]⟩
theorem QU (l:List (Int×Int×Int×Int×Int×Int)) (aA:Bool) (band:Int) (k:Int):aI nY fV Tryz.f23.results.toList 1 400 (cutAt Tryz.f23 4) (HU l aA band k)=
 (let q0:=List.getD l (0+Int.toNat k) (cod 2).d;
 let q1:=List.length l;
 let q2:=List.length l=0;
 let q3:av cod:=.aF [.int .i64 band] 3;
 cond (decide (k < Int.ofNat q1)) (.aa (((0:Int)≤k∧k < Int.ofNat q1)) (.aa (0+Int.toNat k < List.length l) (cond (!decide (F.spot q0.1 q0.2.1 q0.2.2.1 q0.2.2.2.1 q0.2.2.2.2.1 q0.2.2.2.2.2=0)) (.ret (.fin (.aP [.c (.own 1 0),.c (.int .i64 (F.spot q0.1 q0.2.1 q0.2.2.1 q0.2.2.2.1 q0.2.2.2.2.1 q0.2.2.2.2.2))]) [.own 2 [] 42])) (.aa (ae (k+1)) (.ret (.cut (cutAt Tryz.f23 4) ⟨bc 31 [(0,.c (.ai 0 0 q1 aA)),(2,.c (.ptr 1 0 0)),(12,.c (.ai 0 0 q1 aA)),(0,.c (.int .i64 (Int.ofNat q1))),(0,.c (.int .i64 (k+1)))],[.aB 2 l,q3,.own 2 [] 42]⟩)))))) (cond (F.wr band) (.ret (.fin (.aP [.c (.own 1 0),.c (.int .i64 4)]) [.own 2 [] 42])) (.ite (decide q2) (.aa q2 (.aa (0=0) (.ret (.cut (cutAt Tryz.f23 16) ⟨bc 13 [(3,.c (.ptr 1 0 0)),(6,.c (.own 3 0)),(23,.c (.ai 0 0 0 true)),(0,.c (.int .i64 (Int.ofNat 0))),(0,.c (.int .i64 0))],[.aB 2 l,q3,.own 2 [] 42,.own 2 [] 42]⟩)))) (.aa ((0+List.length l≤List.length l∧((0:Nat) < List.length l∧List.length l≤1000000))) (.aa q2 (.ret (.cut (cutAt Tryz.f23 16) ⟨bc 13 [(3,.c (.ptr 1 0 0)),(30,.c (.own 3 q1)),(0,.c (.int .i64 (Int.ofNat q1))),(0,.c (.int .i64 0))],[.aB 2 l,q3,.own 2 [] 42,.own 2 (List.take q1 (List.drop 0 l)) 42]⟩))))))):=by kernel_rfl
def EM (l:List (Int×Int×Int×Int×Int×Int)) (_:Bool) (band:Int) (_:Int):St cod:=⟨bc 13 [(3,.c (.ptr 1 0 0)),(6,.c (.own 3 0)),(23,.c (.ai 0 0 0 true)),(0,.c (.int .i64 (Int.ofNat 0))),(0,.c (.int .i64 0))],[.aB 2 l,.aF [.int .i64 band] 3,.own 2 [] 42,.own 2 [] 42]⟩
theorem Mm (l:List (Int×Int×Int×Int×Int×Int)) (aA:Bool) (band:Int) (k:Int):aI nY fV Tryz.f23.results.toList 1 400 (cutAt Tryz.f23 16) (EM l aA band k)=
.ret (.fin (.aP [.c (.own 1 0),.c (.int .i64 0)]) [.own 2 [] 42]):=by kernel_rfl
theorem Ml (l:List (Int×Int×Int×Int×Int×Int)) (aA:Bool) (band:Int) (b0:aC) (hb:b0.n=1) (_:ae band) (h1:List.length l=0):Sym.af Tryz.prog b0 [.code (aj Tryz.f23)] ⟨ay Tryz.f23 [.c (.ai 0 0 l.length aA),.c (.int .i64 band)],([.aB 2 l]:Heap cod)⟩ (Sym.Ends Tryz.prog Tryz.f23 1 (.aP [.c (.own 1 0),.c (.int .i64 (F.wm l band))]) [.own 2 [] 42]):=by
 have hl:l=[]:=List.eq_nil_of_length_eq_zero h1;subst hl;have hE:F.wm [] band=if F.wr band then 4 else 0:=rfl
 rw [hE];refine af.go (cfg:=nY) pL mixed fV 400 hb (QT [] aA band) ?_;simp only [T.wp,T.wp_cond,bF,Int.ofNat_eq_natCast,decide_eq_true_eq,and_true];rw [if_neg (by decide)];refine af.go (cfg:=nY) pL mixed fV 400 hb (QU [] aA band 0) ?_;simp only [T.wp,T.wp_cond,bF,Int.ofNat_eq_natCast,decide_eq_true_eq,and_true,true_and,Nat.zero_add,Bool.not_eq_true',decide_eq_false_iff_not];rw [if_neg (by decide)]
 cases F.wr band with
 | true=>rfl
 | false=>
   rw [if_neg Bool.false_ne_true];refine ⟨fun _=>⟨rfl,?_⟩,fun h=>absurd rfl h⟩;exact af.go (cfg:=nY) pL mixed fV 400 hb (Mm [] aA band 0) ⟨rfl,rfl⟩
def afP:aH cod:=fun args H=>match args,H with
 | [.c (.ai 0 cF cA _),.c (.int .i64 band)],[o0]=>(match o0.cV 2 with | some l=>.aa ((cF=0∧cA=List.length l)∧(ae band)∧(List.length l=0)) (.ret (.aP [.c (.own 1 0),.c (.int .i64 (F.wm l band))],[.own 2 [] 42])) | none=>.fail)
 | _,_=>.fail
def CR:aQ cod:=(48,.k NY)::CT
def iQ:aT cod:=c9 CR
theorem fL:cv Tryz.prog cod CR:=.To vc xj
def eZ:bA:=[(4,[16,3,0,17,18],3),(16,[3,34,35,36,10],5)]
theorem WX (l:List (Int×Int×Int×Int×Int×Int)) (aA:Bool) (band:Int):aI iQ eZ Tryz.f23.results.toList 1 400 [.code (aj Tryz.f23)] ⟨ay Tryz.f23 [.c (.ai 0 0 l.length aA),.c (.int .i64 band)],([.aB 2 l]:Heap cod)⟩=
 (let q0:=List.length l;
 cond (decide (128 < Int.ofNat q0)) (.ret (.fin (.aP [.c (.own 1 0),.c (.int .i64 2)]) [.own 2 [] 42])) (.ret (.cut (cutAt Tryz.f23 4) ⟨bc 31 [(0,.c (.ai 0 0 q0 aA)),(2,.c (.ptr 1 0 0)),(12,.c (.ai 0 0 q0 aA)),(0,.c (.int .i64 (Int.ofNat q0))),(0,.c (.int .i64 0))],[.aB 2 l,.aF [.int .i64 band] 3,.own 2 [] 42]⟩))):=by kernel_rfl
def zJ (l:List (Int×Int×Int×Int×Int×Int)) (aA:Bool) (band:Int) (k:Int):St cod:=⟨bc 31 [(0,.c (.ai 0 0 l.length aA)),(2,.c (.ptr 1 0 0)),(12,.c (.ai 0 0 l.length aA)),(0,.c (.int .i64 (Int.ofNat l.length))),(0,.c (.int .i64 k))],[.aB 2 l,.aF [.int .i64 band] 3,.own 2 [] 42]⟩
theorem HF (l:List (Int×Int×Int×Int×Int×Int)) (aA:Bool) (band:Int) (k:Int):aI iQ eZ Tryz.f23.results.toList 1 400 (cutAt Tryz.f23 4) (zJ l aA band k)=
 (let q0:=List.getD l (0+Int.toNat k) (cod 2).d;
 let q1:=List.length l;
 let q2:=List.take q1 (List.drop 0 l);
 cond (decide (k < Int.ofNat q1)) (.aa (((0:Int)≤k∧k < Int.ofNat q1)) (.aa (0+Int.toNat k < List.length l) (cond (!decide (F.spot q0.1 q0.2.1 q0.2.2.1 q0.2.2.2.1 q0.2.2.2.2.1 q0.2.2.2.2.2=0)) (.ret (.fin (.aP [.c (.own 1 0),.c (.int .i64 (F.spot q0.1 q0.2.1 q0.2.2.1 q0.2.2.2.1 q0.2.2.2.2.1 q0.2.2.2.2.2))]) [.own 2 [] 42])) (.aa (ae (k+1)) (.ret (.cut (cutAt Tryz.f23 4) ⟨bc 31 [(0,.c (.ai 0 0 q1 aA)),(2,.c (.ptr 1 0 0)),(12,.c (.ai 0 0 q1 aA)),(0,.c (.int .i64 (Int.ofNat q1))),(0,.c (.int .i64 (k+1)))],[.aB 2 l,.aF [.int .i64 band] 3,.own 2 [] 42]⟩)))))) (cond (F.wr band) (.ret (.fin (.aP [.c (.own 1 0),.c (.int .i64 4)]) [.own 2 [] 42])) (.ite (decide (List.length l=0)) (.aa (List.length l=0) (.fail)) (.aa ((0+List.length l≤List.length l∧((0:Nat) < List.length l∧List.length l≤1000000))) (.aa (List.length q2≤1000000) (.ret (.cut (cutAt Tryz.f23 16) ⟨bc 13 [(3,.c (.ptr 1 0 0)),(6,.c (.own 4 0)),(23,.c (.own 3 q1)),(0,.c (.int .i64 (Int.ofNat q1))),(0,.c (.int .i64 0))],[.aB 2 l,.aF [.int .i64 band] 3,.own 2 [] 42,.own 2 (F.iE q2) 42,.own 2 [] 42]⟩))))))):=by kernel_rfl
def vr (l:List (Int×Int×Int×Int×Int×Int)) (_:Bool) (band:Int) (ts os:List (Int×Int×Int×Int×Int×Int)) (tn on:Nat) (k:Int):St cod:=⟨bc 13 [(3,.c (.ptr 1 0 0)),(6,.c (.own 4 on)),(23,.c (.own 3 tn)),(0,.c (.int .i64 tn)),(0,.c (.int .i64 k))],([.aB 2 l,.aF [.int .i64 band] 3,.own 2 [] 42,.own 2 ts 42,.own 2 os 42]:Heap cod)⟩
theorem B5 (l:List (Int×Int×Int×Int×Int×Int)) (aA:Bool) (band:Int) (ts os:List (Int×Int×Int×Int×Int×Int)) (tn on:Nat) (k:Int):aI iQ eZ Tryz.f23.results.toList 1 400 (cutAt Tryz.f23 16) (vr l aA band ts os tn on k)=
 (let q0:=List.getD ts (0+Int.toNat k) (cod 2).d;
 cond (decide (k < Int.ofNat tn)) (.aa (((0:Int)≤k∧k < Int.ofNat tn)) (.aa (0+Int.toNat k < List.length ts) (.aa ((0+on≤List.length os∧(List.length os≤1000000∧(F.AA (q0.1,q0.2.1,q0.2.2.1,q0.2.2.2.1,q0.2.2.2.2.1,q0.2.2.2.2.2) band∧F.oN os)))) (cond (!F.vw (F.zX band (q0.1,q0.2.1,q0.2.2.1,q0.2.2.2.1,q0.2.2.2.2.1,q0.2.2.2.2.2)) os on 0) (.aa (1=1) (.aa (on+1≤1000000) (.aa (ae (k+1)) (.ret (.cut (cutAt Tryz.f23 16) ⟨bc 13 [(3,.c (.ptr 1 0 0)),(6,.c (.own 4 (on+1))),(23,.c (.own 3 (tn))),(0,.c (.int .i64 (Int.ofNat tn))),(0,.c (.int .i64 (k+1)))],[.aB 2 l,.aF [.int .i64 band] 3,.own 2 [] 42,.own 2 ts 42,.own 2 (os++([(q0.1,q0.2.1,q0.2.2.1,q0.2.2.2.1,q0.2.2.2.2.1,q0.2.2.2.2.2)])) 42]⟩))))) (.aa (ae (k+1)) (.ret (.cut (cutAt Tryz.f23 16) ⟨bc 13 [(3,.c (.ptr 1 0 0)),(6,.c (.own 4 (on))),(23,.c (.own 3 (tn))),(0,.c (.int .i64 (Int.ofNat tn))),(0,.c (.int .i64 (k+1)))],[.aB 2 l,.aF [.int .i64 band] 3,.own 2 [] 42,.own 2 ts 42,.own 2 os 42]⟩))))))) (.ret (.fin (.aP [.c (.own 1 (on)),.c (.int .i64 0)]) [.own 2 os 42]))):=by kernel_rfl
theorem dM {l:List F.Sp} {i:Nat} (h:i < l.length):l.getD i F.dq∈l:=by
 rw [List.getD,List.getElem?_eq_getElem h];exact List.getElem_mem h
theorem QW (l:List F.Sp) (aA:Bool) (band:Int) (hw:0≤band∧band≤60000) (b0:aC) (hb:b0.n=1) (ts:List F.Sp) (tn:Nat) (Ig:tn=ts.length) (aev:tn≤128) (ha:F.oN ts) (R:SV) (N:Heap cod):
 ∀(m:Nat) (k:Int) (os:List F.Sp) (on:Nat),on=os.length→0≤k→k+m=tn→on+m≤128→F.oN os→(.aP [.c (.own 1 (F.dd band (ts.drop k.toNat) os).length),.c (.int .i64 0)]=R∧[.own 2 (F.dd band (ts.drop k.toNat) os) 42]=N)→
 Sym.af Tryz.prog b0 (cutAt Tryz.f23 16) (vr l aA band ts os tn on k) (Sym.Ends Tryz.prog Tryz.f23 1 R N):=by
 intro m
 induction m with
 | zero=>
   intro k os on ru h0 hm h3 hs hR;refine af.go (cfg:=iQ) fL mixed eZ 400 hb (B5 l aA band ts os tn on k) ?_;simp only [T.wp,T.wp_cond,bF,decide_eq_true_eq];rw [if_neg (by simp only [Int.ofNat_eq_natCast];omega)];rw [List.drop_eq_nil_of_le (by omega)] at hR;simp only [F.dd,←ru] at hR
   exact hR
 | succ m ih=>
   intro k os on ru h0 hm h3 hs hR;have k2:k.toNat < ts.length:=by omega
   have hd:ts.drop k.toNat=ts.getD k.toNat F.dq::ts.drop (k+1).toNat:=by
    rw [List.drop_eq_getElem_cons k2,List.getD,List.getElem?_eq_getElem k2,show (k+1).toNat=k.toNat+1 by omega];rfl
   have hx:=ha _ (dM k2);rw [hd,F.dd,←ru] at hR;refine af.go (cfg:=iQ) fL mixed eZ 400 hb (B5 l aA band ts os tn on k) ?_;simp only [T.wp,T.wp_cond,bF,decide_eq_true_eq];rw [if_pos (by simp only [Int.ofNat_eq_natCast];omega)];refine ⟨by simp only [Int.ofNat_eq_natCast];omega,by omega,⟨by omega,by omega,⟨?_,hw.1,hw.2⟩,hs⟩,?_⟩
   ·rw [Nat.zero_add];exact hx
   ·rw [Nat.zero_add]
    cases hq:F.vw (F.zX band (ts.getD k.toNat F.dq)) os on 0 with
    | true=>
      rw [hq,if_pos rfl] at hR;have nx:=ih (k+1) os on ru (by omega) (by omega) (by omega) hs hR
      refine ap (by
       change ¬(!F.vw (F.zX band (ts.getD k.toNat F.dq)) os on 0)=true;rw [hq];decide) ?_
      exact ⟨by unfold ae;omega,nx⟩
    | false=>
      rw [hq,if_neg Bool.false_ne_true] at hR
      have nx:=ih (k+1) (os++[ts.getD k.toNat F.dq]) (on+1) (by simp [ru]) (by omega) (by omega) (by omega) (fun x Px=>by
       rcases List.mem_append.1 Px with h | h
       ·exact hs x h
       ·rw [List.mem_singleton.1 h];exact hx) hR
      refine aq (by
       change (!F.vw (F.zX band (ts.getD k.toNat F.dq)) os on 0)=true;rw [hq];rfl) ?_
      exact ⟨trivial,by omega,by unfold ae;omega,nx⟩
theorem WW (l:List F.Sp) (aA:Bool) (band:Int) (b0:aC) (hb:b0.n=1) (bP:¬l.length=0) (aev:l.length≤128) (R:SV) (N:Heap cod)
 (hY:F.wm l band=0→.aP [.c (.own 1 (F.bI l band).length),.c (.int .i64 0)]=R∧[.own 2 (F.bI l band) 42]=N) (hN:F.wm l band≠0→.aP [.c (.own 1 0),.c (.int .i64 (F.wm l band))]=R∧[.own 2 [] 42]=N):
 ∀(m:Nat) (k:Int),0≤k→k+m=l.length→(∀j,j < k.toNat→F.Mj (l.getD j F.dq))→F.wm l band=(if F.J2 l m k.toNat=0 then (if F.wr band then 4 else 0) else F.J2 l m k.toNat)→
 Sym.af Tryz.prog b0 (cutAt Tryz.f23 4) (zJ l aA band k) (Sym.Ends Tryz.prog Tryz.f23 1 R N):=by
 intro m
 induction m with
 | zero=>
   intro k h0 hm iI hE;refine af.go (cfg:=iQ) fL mixed eZ 400 hb (HF l aA band k) ?_;simp only [T.wp,T.wp_cond,bF,decide_eq_true_eq];rw [if_neg (by simp only [Int.ofNat_eq_natCast];omega)];simp only [F.J2,if_true] at hE
   cases hw:F.wr band with
   | true=>
     rw [hw,if_pos rfl] at hE;rw [if_pos rfl];have:=hN (by rw [hE];decide);rw [hE] at this
     exact this
   | false=>
     rw [hw,if_neg Bool.false_ne_true] at hE;rw [if_neg Bool.false_ne_true]
     have ha:F.oN l:=fun x hx=>by
      obtain ⟨i,hi,rfl⟩:=List.getElem_of_mem hx;have:=iI i (by omega);rw [List.getD,List.getElem?_eq_getElem hi] at this;exact this
     have hwb:0≤band∧band≤60000:=by
      unfold F.wr at hw;simp only [Bool.or_eq_false_iff,decide_eq_false_iff_not] at hw;omega
     refine ⟨fun h=>absurd h bP,fun _=>⟨⟨by omega,by omega,by omega⟩,?_⟩⟩;rw [List.drop_zero,List.take_length];have hlen:=uh l
     exact ⟨by omega,QW l aA band hwb b0 hb (F.iE l) l.length hlen.symm aev (fun x hx=>ha x ((fR l).mem_iff.1 hx)) R N l.length 0 [] 0 rfl (by omega) (by omega) (by omega) (fun x hx=>by cases hx) (hY hE)⟩
 | succ m ih=>
   intro k h0 hm iI hE;have k2:k.toNat < l.length:=by omega
   refine af.go (cfg:=iQ) fL mixed eZ 400 hb (HF l aA band k) ?_;simp only [T.wp,T.wp_cond,bF,decide_eq_true_eq];rw [if_pos (by simp only [Int.ofNat_eq_natCast];omega)];refine ⟨by simp only [Int.ofNat_eq_natCast];omega,by omega,?_⟩;rw [Nat.zero_add];rw [F.J2] at hE;by_cases hv:F.RD (l.getD k.toNat F.dq)=0
   ·rw [if_pos hv] at hE
    have nx:=ih (k+1) (by omega) (by omega) (fun j hj=>by
     by_cases e:j=k.toNat
     ·rw [e];exact hv
     ·exact iI j (by omega)) (by rw [show (k+1).toNat=k.toNat+1 by omega];exact hE)
    refine ap (by
     change ¬(!decide (F.RD (l.getD k.toNat F.dq)=0))=true;rw [hv];decide) ?_
    exact ⟨by unfold ae;omega,nx⟩
   ·rw [if_neg hv,if_neg hv] at hE
    refine aq (by
     change (!decide (F.RD (l.getD k.toNat F.dq)=0))=true;rw [decide_eq_false hv];rfl) ?_
    have:=hN (by rw [hE];exact hv);rw [hE] at this;exact this
theorem B4 (l:List F.Sp) (aA:Bool) (band:Int) (b0:aC) (hb:b0.n=1) (bP:¬l.length=0) (R:SV) (N:Heap cod)
 (hY:F.wm l band=0→.aP [.c (.own 1 (F.bI l band).length),.c (.int .i64 0)]=R∧[.own 2 (F.bI l band) 42]=N) (hN:F.wm l band≠0→.aP [.c (.own 1 0),.c (.int .i64 (F.wm l band))]=R∧[.own 2 [] 42]=N):
 Sym.af Tryz.prog b0 [.code (aj Tryz.f23)] ⟨ay Tryz.f23 [.c (.ai 0 0 l.length aA),.c (.int .i64 band)],([.aB 2 l]:Heap cod)⟩ (Sym.Ends Tryz.prog Tryz.f23 1 R N):=by
 refine af.go (cfg:=iQ) fL mixed eZ 400 hb (WX l aA band) ?_;simp only [T.wp,T.wp_cond,bF,decide_eq_true_eq];by_cases c:128 < l.length
 ·rw [if_pos (by simp only [Int.ofNat_eq_natCast];omega)];have hE:F.wm l band=2:=by rw [F.wm,if_pos c]
  have:=hN (by rw [hE];decide);rw [hE] at this;exact this
 ·rw [if_neg (by simp only [Int.ofNat_eq_natCast];omega)];exact WW l aA band b0 hb bP (by omega) R N hY hN l.length 0 (by omega) (by omega) (fun j hj=>absurd hj (by omega)) (by rw [F.wm,if_neg c];rfl)
theorem QY (l:List (Int×Int×Int×Int×Int×Int)) (aA:Bool) (band:Int) (b0:aC) (hb:b0.n=1) (_:ae band) (h1:¬List.length l=0) (h2:F.wm l band=0):Sym.af Tryz.prog b0 [.code (aj Tryz.f23)] ⟨ay Tryz.f23 [.c (.ai 0 0 l.length aA),.c (.int .i64 band)],([.aB 2 l]:Heap cod)⟩ (Sym.Ends Tryz.prog Tryz.f23 1 (.aP [.c (.own 1 (F.bI l band).length),.c (.int .i64 0)]) [.own 2 (F.bI l band) 42]):=by
 exact B4 l aA band b0 hb h1 _ _ (fun _=>⟨rfl,rfl⟩) (fun h=>absurd h2 h)
def EF:aH cod:=fun args H=>match args,H with
 | [.c (.ai 0 cF cA _),.c (.int .i64 band)],[o0]=>(match o0.cV 2 with | some l=>.aa ((cF=0∧cA=List.length l)∧(ae band)∧(¬List.length l=0)∧(F.wm l band=0)) (.ret (.aP [.c (.own 1 (F.bI l band).length),.c (.int .i64 0)],[.own 2 (F.bI l band) 42])) | none=>.fail)
 | _,_=>.fail
theorem HE:Sound Tryz.prog cod 23 EF:=ax (cfg:=iQ) fL mixed Tryz.func23 rfl rfl _ fun args H r news hg b0 hb=>by
 unfold EF at hg;split at hg
 ·skip
  split at hg
  ·rename_i l gG;cases aR gG;simp only [T.ah,T.wp,Prod.mk.injEq] at hg;obtain ⟨⟨⟨rfl,rfl⟩,q1,q2,q3⟩,rfl,rfl⟩:=hg;exact QY _ _ _ b0 hb (by assumption) (by assumption) (by assumption)
  ·exact hg.elim
 ·exact hg.elim
def CS:aQ cod:=(23,.p EF)::CR
def XF:aT cod:=c9 CS
theorem xe:cv Tryz.prog cod CS:=.cons HE fL
def za:aH cod:=fun args H=>match args,H with
 | [.c (.ai 0 li ln _),.c (.int .i64 band)],[o0]=>(match o0.cV 2 with
   | some l=>.aa ((li=0∧ln=List.length l)∧ae band)
      (.ite (decide (F.wm l band=0)) (.ret (.aP [.c (.own 1 (F.bI l band).length),.c (.int .i64 0)],[.own 2 (F.bI l band) 42])) (.ret (.aP [.c (.own 1 0),.c (.int .i64 (F.wm l band))],[.own 2 [] 42])))
   | none=>.fail)
 | _,_=>.fail
theorem QV (l:List F.Sp) (aA:Bool) (band:Int) (b0:aC) (hb:b0.n=1) (h64:ae band) (R:SV) (N:Heap cod)
 (hY:F.wm l band=0→.aP [.c (.own 1 (F.bI l band).length),.c (.int .i64 0)]=R∧[.own 2 (F.bI l band) 42]=N) (hN:F.wm l band≠0→.aP [.c (.own 1 0),.c (.int .i64 (F.wm l band))]=R∧[.own 2 [] 42]=N):
 Sym.af Tryz.prog b0 [.code (aj Tryz.f23)] ⟨ay Tryz.f23 [.c (.ai 0 0 l.length aA),.c (.int .i64 band)],([.aB 2 l]:Heap cod)⟩ (Sym.Ends Tryz.prog Tryz.f23 1 R N):=by
 by_cases c:l.length=0
 ·have:=Ml l aA band b0 hb h64 c;by_cases e:F.wm l band=0
  ·obtain ⟨rfl,rfl⟩:=hY e;rw [e] at this;have hl:=List.eq_nil_of_length_eq_zero c;subst hl;exact this
  ·obtain ⟨rfl,rfl⟩:=hN e;exact this
 ·exact B4 l aA band b0 hb c R N hY hN
theorem EK:Sound Tryz.prog cod 23 za:=ax (cfg:=XF) xe mixed Tryz.func23 rfl rfl _ fun args H r news hg b0 hb=>by
 unfold za at hg;split at hg
 ·skip
  split at hg
  ·rename_i l gG;cases aR gG;simp only [T.ah,T.wp,Prod.mk.injEq,decide_eq_true_eq] at hg;obtain ⟨⟨⟨rfl,rfl⟩,h64⟩,g1,g2⟩:=hg;exact QV l _ _ b0 hb h64 r news g1 (fun h=>g2 (decide_eq_false h))
  ·exact hg.elim
 ·exact hg.elim
def Fl:aQ cod:=(23,.p za)::CS
theorem Fm:cv Tryz.prog cod Fl:=.cons EK xe
end
end
section
open Sym Go.RowKit Go.Sort
noncomputable section
set_option maxRecDepth 100000
set_option maxHeartbeats 4000000
namespace F
def tj (a b:Sp):Int:=Ii [eA a.2.1 b.2.1,eA a.1 b.1,eA a.2.2.1 b.2.2.1,eA a.2.2.2.1 b.2.2.2.1,eA a.2.2.2.2.1 b.2.2.2.2.1,eA a.2.2.2.2.2 b.2.2.2.2.2]
def GM (a b:Sp):Prop:=a.2.1 < b.2.1∨(a.2.1=b.2.1∧(a.1 < b.1∨(a.1=b.1∧(a.2.2.1 < b.2.2.1∨(a.2.2.1=b.2.2.1∧(a.2.2.2.1 < b.2.2.2.1∨(a.2.2.2.1=b.2.2.2.1∧(a.2.2.2.2.1 < b.2.2.2.2.1∨(a.2.2.2.2.1=b.2.2.2.2.1∧a.2.2.2.2.2 < b.2.2.2.2.2)))))))))
end F
def A8:bA:=[]
theorem Yc (a1 a2 a3 a4 a5 a6:Int) (b1 b2 b3 b4 b5 b6:Int):aI sC A8 Tryz.f42.results.toList 0 400 [.code (aj Tryz.f42)] ⟨ay Tryz.f42 [.agg [.int .i64 a1,.int .i64 a2,.int .i64 a3,.int .i64 a4,.int .i64 a5,.int .i64 a6],.agg [.int .i64 b1,.int .i64 b2,.int .i64 b3,.int .i64 b4,.int .i64 b5,.int .i64 b6]],([]:Heap cod)⟩=
.aa (((0=0∧6=6)∧(6:Nat)≤1000)) (
.ret (.fin (.c (.int .i64 (F.Ii [F.eA a2 b2,F.eA a1 b1,F.eA a3 b3,F.eA a4 b4,F.eA a5 b5,F.eA a6 b6]))) [])):=by kernel_rfl
theorem Ti (a1 a2 a3 a4 a5 a6:Int) (b1 b2 b3 b4 b5 b6:Int) (b0:aC) (hb:b0.n=0):Sym.af Tryz.prog b0 [.code (aj Tryz.f42)] ⟨ay Tryz.f42 [.agg [.int .i64 a1,.int .i64 a2,.int .i64 a3,.int .i64 a4,.int .i64 a5,.int .i64 a6],.agg [.int .i64 b1,.int .i64 b2,.int .i64 b3,.int .i64 b4,.int .i64 b5,.int .i64 b6]],([]:Heap cod)⟩ (Sym.Ends Tryz.prog Tryz.f42 0 (.c (.int .i64 (F.tj (a1,a2,a3,a4,a5,a6) (b1,b2,b3,b4,b5,b6)))) []):=by
 refine af.go (cfg:=sC) jc mixed A8 400 hb (Yc a1 a2 a3 a4 a5 a6 b1 b2 b3 b4 b5 b6) ?_;simp only [T.wp,bF,and_true,true_and];exact ⟨by decide,rfl⟩
def K0:aH cod:=fun args H=>match args,H with
 | [.agg [.int .i64 a1,.int .i64 a2,.int .i64 a3,.int .i64 a4,.int .i64 a5,.int .i64 a6],.agg [.int .i64 b1,.int .i64 b2,.int .i64 b3,.int .i64 b4,.int .i64 b5,.int .i64 b6]],[]=>.ret (.c (.int .i64 (F.tj (a1,a2,a3,a4,a5,a6) (b1,b2,b3,b4,b5,b6))),[])
 | _,_=>.fail
theorem pU:Sound Tryz.prog cod 42 K0:=ax (cfg:=sC) jc mixed Tryz.func42 rfl rfl _ fun args H r news hg b0 hb=>by
 unfold K0 at hg;split at hg
 ·skip
  cases hg;exact Ti _ _ _ _ _ _ _ _ _ _ _ _ b0 hb
 ·exact hg.elim
def II:aQ cod:=(42,.p K0)::Cy
def lF:aT cod:=c9 II
theorem iZ:cv Tryz.prog cod II:=.cons pU jc
def F.Kk (x:F.Sp):List F.Sp→List F.Sp
 | []=>[x]
 | y::r=>if F.tj y x < 0 then y::F.Kk x r else x::y::r
def F.gM:List F.Sp→List F.Sp
 | []=>[]
 | x::r=>F.Kk x (F.gM r)
theorem lN (a b:F.Sp):F.tj a b < 0↔F.GM a b:=by
 unfold F.tj F.GM;simp only [VH,MZ,AX];have:¬F.Ii [] < 0:=by decide
 simp only [this,and_false,or_false]
theorem gZ {a b c:F.Sp} (h1:F.GM a b) (h2:F.GM b c):F.GM a c:=by
 unfold F.GM at*;omega
theorem v8 (a b:F.Sp) (h1:¬F.GM a b) (h2:¬F.GM b a):a=b:=by
 obtain ⟨a1,a2,a3,a4,a5,a6⟩:=a;obtain ⟨b1,b2,b3,b4,b5,b6⟩:=b;unfold F.GM at*;simp only [Prod.mk.injEq];simp only at h1 h2;omega
theorem v7 (a:F.Sp):¬F.GM a a:=by
 unfold F.GM;omega
theorem aiC:SWO (ltOf F.tj) where
 irrefl:=fun x=>by simp only [ltOf,decide_eq_false_iff_not,lN];exact v7 x
 trans:=fun x y z h1 h2=>by
  simp only [ltOf,decide_eq_true_eq,lN] at*;exact gZ h1 h2
 ntrans:=fun x y z h1 h2=>by
  simp only [ltOf,decide_eq_false_iff_not,lN] at*;intro h;by_cases e:F.GM y x
  ·exact h2 (by
    by_cases e2:F.GM z y
    ·exact absurd (gZ e2 (gZ e h)) (v7 _)
    ·exact absurd (gZ e h) h2)
  ·rw [v8 x y h1 e] at h;exact h2 h
theorem tJ (x:F.Sp):∀l:List F.Sp,(F.Kk x l).Perm (x::l)
 | []=>.refl _
 | y::r=>by
   unfold F.Kk;split
   ·exact ((tJ x r).cons y).trans (.swap x y r)
   ·exact .refl _
theorem l8:∀l:List F.Sp,(F.gM l).Perm l
 | []=>.refl _
 | x::r=>(tJ x (F.gM r)).trans ((l8 r).cons x)
theorem oC (l:List F.Sp):(F.gM l).length=l.length:=(l8 l).length_eq
def U6 (a b:F.Sp):Prop:=¬F.GM b a
theorem BG {a b c:F.Sp} (h1:U6 a b) (h2:U6 b c):U6 a c:=by
 intro h;by_cases e:F.GM b a
 ·exact h1 e
 ·by_cases e2:F.GM a b
  ·exact h2 (gZ h e2)
  ·rw [v8 a b e2 e] at h;exact h2 h
theorem uT (x:F.Sp):∀l:List F.Sp,l.Pairwise U6→(F.Kk x l).Pairwise U6
 | [],_=>by simp [F.Kk]
 | y::r,h=>by
   rw [List.pairwise_cons] at h;unfold F.Kk;split
   ·rename_i Py;rw [lN] at Py;rw [List.pairwise_cons];refine ⟨fun z hz=>?_,uT x r h.2⟩;have:=(tJ x r).mem_iff.1 hz;rcases List.mem_cons.1 this with rfl | hz
    ·exact fun h=>v7 _ (gZ Py h)
    ·exact h.1 z hz
   ·rename_i Py;rw [lN] at Py;rw [List.pairwise_cons,List.pairwise_cons];refine ⟨fun z hz=>?_,h⟩;rcases List.mem_cons.1 hz with rfl | hz
    ·exact Py
    ·exact BG Py (h.1 z hz)
theorem rN:∀l:List F.Sp,(F.gM l).Pairwise U6
 | []=>.nil
 | x::r=>uT x _ (rN r)
theorem HC {l m:List F.Sp} (hl:l.Pairwise U6) (hm:m.Pairwise U6) (h:l.Perm m):l=m:=
 List.Perm.eq_of_pairwise (le:=U6) (fun a b _ _ h1 h2=>v8 a b h2 h1) hl hm h
theorem WT (l:List F.Sp):(l.mergeSort fun x y=>!(ltOf F.tj) y x)=F.gM l:=by
 refine HC ?_ (rN l) ((List.mergeSort_perm l _).trans (l8 l).symm)
 have hb:∀a b:F.Sp,(!(ltOf F.tj) b a)=true↔U6 a b:=fun a b=>by
  unfold ltOf U6;rw [Bool.not_eq_true',decide_eq_false_iff_not,lN]
 have:=List.pairwise_mergeSort (le:=fun x y:F.Sp=>!(ltOf F.tj) y x) (fun a b c h1 h2=>(hb a c).2 (BG ((hb a b).1 h1) ((hb b c).1 h2))) (fun a b=>by
  rw [Bool.or_eq_true,hb,hb];by_cases e:F.GM b a
  ·exact .inr fun h=>v7 _ (gZ e h)
  ·exact .inl e) l
 exact this.imp fun h=>(hb _ _).1 h
theorem OP (x y:F.Sp) (W:World) (hT:pN W (gT W)):Calls Tryz.prog 42 (#[.agg (e7 x).toArray,.agg (e7 y).toArray]++#[]) W fun e w'=>e= .returned (.int .i64 (F.tj x y))∧∃q os',w'=grow (W.drewN q) os':=by
 have G:Sym.Good (cod:=cod) (fun _=>⟨0,0,0,.tuple #[],[]⟩) [] W (gT W):=⟨fun h o ho=>by simp at ho,fun h h' o o' b _ ho=>by simp at ho,hT⟩;have sc:∀z:F.Sp,aS (fun _=>⟨0,0,0,.tuple #[],[]⟩) 0 (.agg ((cod 2).enc z)) (.agg (e7 z).toArray):=fun z=>⟨_,rfl,gd rfl⟩;refine (pU.calls [.agg ((cod 2).enc x),.agg ((cod 2).enc y)] [] _ W [.agg (e7 x).toArray,.agg (e7 y).toArray] (.c (.int .i64 (F.tj x y))) [] rfl G (.cons (sc x) (.cons (sc y) .nil)) ?_).mono ?_
 ·exact rfl
 ·rintro e w' ⟨v,aK,rfl,_,hv,_,hb⟩;have:v= .int .i64 (F.tj x y):=hv;rw [this];exact ⟨rfl,Nd hb⟩
theorem Mf (b cap:Nat) (l:List F.Sp) (w:World) (M:Nat→Prop) (hT:pN w M) (hM:M b) (hm:l.length≤1000000) (hr:iM w b (aN (cod 2) l)):
 Calls Tryz.prog 41 (Value.slice (.some ⟨b,0,Option.none⟩) l.length cap::kr [42]).toArray w fun e w'=>e= .returned (.tuple #[])∧∃(n:Nat) (os:Array Obj) (D:Array Value),D.toList.map id=aN (cod 2) (F.gM l)∧w'=grow (putRow id (Sort.ahead w n) b 0 D) os:=by
 have hH:HoldsK e7 6 w b 0 l.toArray:=by
  refine iM.holds (e':=id) (D:=flatK e7 6 l.toArray) ?_;rw [List.map_id,gW];exact hr
 have Ug:=AnyQ.slices_SortFunc_total GD 6 Tryz.isAgg68 Tryz.sizeOf68 e7 nk (fun x v hv=>by
  change v∈[Value.int .i64 x.1,.int .i64 x.2.1,.int .i64 x.2.2.1,.int .i64 x.2.2.2.1,.int .i64 x.2.2.2.2.1,.int .i64 x.2.2.2.2.2] at hv;simp only [List.mem_cons,List.not_mem_nil,or_false] at hv
  rcases hv with rfl | rfl | rfl | rfl | rfl | rfl<;>rfl) F.tj aiC 42 #[] b 0 cap l.toArray w pU.enters (fun m os dk _ x y=>OP x y _ (Nv hT (oq (w:=w) (g:=b) (n:=m) (os:=os) id (flatK e7 6 dk) hM))) hH hr.lt (by simp;omega) (fun x y h1 h2=>by
  simp only [ltOf,decide_eq_false_iff_not,lN] at h1 h2;exact v8 x y h1 h2)
 refine Ug.mono ?_;rintro e w' ⟨rfl,n,os,rfl⟩;refine ⟨rfl,n,os,flatK e7 6 (F.gM l).toArray,by rw [List.map_id,gW],?_⟩;rw [show l.toArray.toList=l from rfl,WT];rfl
theorem Mg (p:Option Addr) (cap:Nat) (w:World):Calls Tryz.prog 41 (Value.slice p 0 cap::kr [42]).toArray w fun e w'=>e= .returned (.tuple #[])∧w'=w:=
 AnyF.slices_SortFunc_none GD p cap _ w
theorem Hz:I8 Tryz.prog cod 41 2 [42] F.gM Value id where
 enters:=tx Tryz.func41 rfl rfl
 len:=oC
 none:=Mg
 some:=fun b cap l w M _ hm hr hT hM=>Mf b cap l w M hT hM hm hr
def NX:aH cod:=qf 2 [42] F.gM
theorem HA:dz Tryz.prog cod 41 true NX:=u6 Hz
end
end
namespace Sym
open Go.RowKit
section
variable {cod:Nat→aO}
def Cell.pick (hs:List Nat) (c:Cell):Cell:=if c.hs.all (fun h=>hs.contains h) then c.gp (fun h=>hs.idxOf h) else .eJ
def St.pick (hs:List Nat) (st:St cod):St cod:={tmps:=st.tmps.map (SV.aX (Cell.pick hs)),heap:=hs.map fun h=>(getObj st.heap h).aX (Cell.pick hs)}
theorem A2 {env:Env} {N:Nat} {hs:List Nat} {c:Cell} {v:Value} (h:bZ env N c v):bZ (fun i=>env (hs.getD i 0)) hs.length (c.pick hs) v:=by
 unfold Cell.pick;split
 ·rename_i hc;have jR:∀k∈c.hs,k∈hs:=fun k hk=>by simpa using List.all_eq_true.1 hc k hk
  have e1:∀k,k∈hs→hs.idxOf k < hs.length∧hs.getD (hs.idxOf k) 0=k:=fun k hk=>by
   have:=List.idxOf_lt_length_iff.2 hk;exact ⟨this,by rw [List.getD,List.getElem?_eq_getElem this];simp⟩
  cases c<;>simp only [bZ,Cell.gp,Cell.hs] at* <;>try exact h
  case ptr k i o=>
   obtain ⟨a,b⟩:=e1 k (jR k (by simp));exact ⟨a,by rw [b];exact h.2⟩
  case ai k i n t=>
   obtain ⟨a,b⟩:=e1 k (jR k (by simp));exact ⟨a,by rw [b];exact h.2⟩
  case own k n=>
   obtain ⟨a,b⟩:=e1 k (jR k (by simp));exact ⟨a,by rw [b];exact h.2⟩
  case fn f dC=>
   obtain ⟨h1,h2⟩:=h;refine ⟨fun c cY=>?_,?_⟩
   ·obtain ⟨d,hd,rfl⟩:=List.mem_map.1 cY;exact (e1 d.1 (jR _ (List.mem_map.2 ⟨d,hd,rfl⟩))).1
   ·rw [h2];congr 2;rw [List.map_map];refine List.map_congr_left fun d hd=>?_;simp only [Function.comp];rw [(e1 d.1 (jR _ (List.mem_map.2 ⟨d,hd,rfl⟩))).2]
 ·trivial
theorem VN {st:St cod} {b:aC} {a:Act} {w:World} (hs:List Nat) (hn:hs.Nodup) (cI:∀h∈hs,h < st.heap.length) (hb:∀i,i < b.n→hs[i]? =some i) (hR:Rel st b a w):Rel (st.pick hs) b a w:=by
 obtain ⟨env,hF,hd,G,hk,so,zZ,tC⟩:=hR;have hlen:(st.pick hs).heap.length=hs.length:=by simp [St.pick]
 have get:∀(k:Nat) (o:av cod),(st.pick hs).heap[k]? =some o→k < hs.length∧st.heap[hs.getD k 0]? =some (getObj st.heap (hs.getD k 0))∧o=(getObj st.heap (hs.getD k 0)).aX (Cell.pick hs):=fun k o ho=>by
  simp only [St.pick,List.getElem?_map] at ho;obtain ⟨h,h1,rfl⟩:=Option.map_eq_some_iff.1 ho;have hk:=(List.getElem?_eq_some_iff.1 h1).1;have e:hs.getD k 0=h:=by rw [List.getD,h1];rfl
  rw [e];have:=cI h (List.mem_of_getElem? h1);exact ⟨hk,by unfold getObj;rw [List.getD,List.getElem?_eq_getElem this];rfl,rfl⟩
 have inj:∀i j,i < hs.length→j < hs.length→hs.getD i 0=hs.getD j 0→i=j:=fun i j hi hj e=>by
  rw [List.getD,List.getD,List.getElem?_eq_getElem hi,List.getElem?_eq_getElem hj] at e;simp only [Option.getD_some] at e;have hp:=List.pairwise_iff_getElem.1 hn;rcases Nat.lt_trichotomy i j with h | h | h
  ·exact absurd e (hp i j hi hj h)
  ·exact h
  ·exact absurd e.symm (hp j i hj hi h)
 have hbn:∀i,i < b.n→i < hs.length∧hs.getD i 0=i:=fun i hi=>by
  have:=hb i hi;exact ⟨(List.getElem?_eq_some_iff.1 this).1,by rw [List.getD,this];rfl⟩
 refine ⟨fun i=>env (hs.getD i 0),?_,hd,⟨fun k o ho=>?_,fun k k' o o' c bP ho jS hw hc cY=>?_,G.sr⟩,hk,fun h h1 h2=>?_,?_,fun h o h1 ho dS=>?_⟩
 ·rw [hlen];exact jD (R:=aS env st.heap.length) (fun x _ v hv=>iH (fun c v hc=>A2 hc) hv) hF
 ·obtain ⟨h1,h2,rfl⟩:=get k o ho;rw [hlen];exact dx (fun c v hc=>A2 hc) (G.obj _ _ h2)
 ·obtain ⟨h1,h2,rfl⟩:=get k o ho;obtain ⟨jj,oQ,rfl⟩:=get k' o' jS;rw [cu] at hc cY;rw [fT] at hw;exact G.sep _ _ _ _ c (fun e=>bP (inj k k' h1 jj e)) h2 oQ hw hc cY
 ·simp only [(hbn h h1).2];exact so h h1 h2
 ·rw [hlen];rcases Nat.eq_zero_or_pos b.n with e | e
  ·omega
  ·have:=(hbn (b.n - 1) (by omega)).1;omega
 ·obtain ⟨h2,h3,rfl⟩:=get h o ho;rw [j7] at dS;rw [(hbn h h1).2] at h3 dS;exact tC h _ h1 h3 dS
theorem af.pick {P:Program} {b0:aC} {k:List Item} {st:St cod} {Q:St cod→Prop} (hs:List Nat) (hn:hs.Nodup) (cI:∀h∈hs,h < st.heap.length) (hb:∀i,i < b0.n→hs[i]? =some i) {bg:St cod} (e:st.pick hs=bg) (hr:af P b0 k bg Q):af P b0 k st Q:=
 af.weaken (fun a w hR=>by rw [←e];exact VN hs hn cI hb hR) hr
def Cell.xp:Cell→Cell
 | .own h n=>.ai h 0 n false
 | .ai h i n _=>.ai h i n false
 | c=>c
theorem oc {env:Env} {N:Nat} {c:Cell} {v:Value} (h:bZ env N c v):bZ env N c.xp v:=by
 cases c<;>simp only [bZ,Cell.xp] at* <;>try exact h
 case own k n=>
  obtain ⟨h1,h2,A,c,h3,h4,h5,h6⟩:=h;exact ⟨h1,A,c,h3,h4,h5,(fun h=>by cases h),h6⟩
 case ai k i n t=>
  obtain ⟨h1,A,c,h3,h4,h5,h6,h7⟩:=h;exact ⟨h1,A,c,h3,h4,h5,(fun h=>by cases h),h7⟩
def St.soft (d:Nat) (st:St cod):St cod:={st with tmps:=st.tmps.set d ((st.tmps.getD d (.c .eJ)).aX Cell.xp)}
theorem WS {st:St cod} {b:aC} {a:Act} {w:World} (d:Nat) (hR:Rel st b a w):Rel (st.soft d) b a w:=by
 obtain ⟨env,hF,hd,G,hk⟩:=hR;refine ⟨env,?_,hd,G,hk⟩;have h1:aS env st.heap.length ((st.tmps.getD d (.c .eJ)).aX Cell.xp) (a.tmps.toList.getD d undef):=iH (fun c v hc=>oc hc) (Dk (R:=aS env st.heap.length) (da:=.c .eJ) (db:=undef) trivial hF d);have h2:=xZ (R:=aS env st.heap.length) h1 d hF
 have h3:a.tmps.toList.set d (a.tmps.toList.getD d undef)=a.tmps.toList:=by
  rcases Nat.lt_or_ge d a.tmps.toList.length with h | h
  ·rw [List.getD,List.getElem?_eq_getElem h];exact List.set_getElem_self h
  ·rw [List.set_eq_of_length_le h]
 rw [h3] at h2;exact h2
theorem af.soft {P:Program} {b0:aC} {k:List Item} {st:St cod} {Q:St cod→Prop} (d:Nat) {bg:St cod} (e:st.soft d=bg) (hr:af P b0 k bg Q):af P b0 k st Q:=
 af.weaken (fun a w hR=>by rw [←e];exact WS d hR) hr
def St.trim (k:Nat) (n:Nat) (st:St cod):St cod:=match getObj st.heap k with
 | .aB u l=>{st with heap:=st.heap.set k (.aB u (l.take n))}
 | _=>st
theorem W9 {st:St cod} {b:aC} {a:Act} {w:World} (k n:Nat) (hR:Rel st b a w):Rel (st.trim k n) b a w:=by
 unfold St.trim;split
 ·rename_i u l ho;have dN:=aE ho (by simp);have hk:k < st.heap.length:=(List.getElem?_eq_some_iff.1 dN).1;obtain ⟨env,hF,hd,G,gY,so,zZ,tC⟩:=hR;have hlen:(st.heap.set k (.aB u (l.take n))).length=st.heap.length:=List.length_set
  have aL:∀(i:Nat) (o:av cod),(st.heap.set k (.aB u (l.take n)))[i]? =some o→(i=k∧o= .aB u (l.take n))∨st.heap[i]? =some o:=fun i o h=>by
   by_cases e:i=k
   ·subst e;rw [List.getElem?_set_self hk] at h;exact .inl ⟨rfl,(Option.some.inj h).symm⟩
   ·rw [List.getElem?_set_ne (Ne.symm e)] at h;exact .inr h
  have hv:aN (cod u) l=aN (cod u) (l.take n)++aN (cod u) (l.drop n):=by rw [←dW,List.take_append_drop]
  refine ⟨env,by simp only [hlen];exact hF,hd,⟨fun i o h=>?_,fun i j o o' c bP h h' hw hc cY=>?_,G.sr⟩,gY,so,by simp only [hlen];exact zZ,fun i o hi h dS=>?_⟩
  ·simp only [hlen];rcases aL i o h with ⟨rfl,rfl⟩ | h
   ·obtain ⟨g1,g2,g3⟩:=G.obj i _ dN;refine ⟨g1,fun j q hq=>g2 j q ?_,fun bP=>g3 fun e=>bP (by rw [e];simp)⟩;rw [hv,List.getElem?_append_left (List.getElem?_eq_some_iff.1 hq).1];exact hq
   ·exact G.obj i o h
  ·rcases aL i o h with ⟨rfl,rfl⟩ | g
   ·simp [av.wr] at hw
   ·rcases aL j o' h' with ⟨rfl,rfl⟩ | g'
    ·refine G.sep i j o _ c bP g dN hw hc ⟨fun e=>cY.1 (by rw [e];simp),cY.2⟩
    ·exact G.sep i j o o' c bP g g' hw hc cY
  ·rcases aL i o h with ⟨rfl,rfl⟩ | h
   ·cases dS
   ·exact tC i o hi h dS
 ·exact hR
theorem af.trim {P:Program} {b0:aC} {k:List Item} {st:St cod} {Q:St cod→Prop} (h n:Nat) {bg:St cod} (e:st.trim h n=bg) (hr:af P b0 k bg Q):af P b0 k st Q:=
 af.weaken (fun a w hR=>by rw [←e];exact W9 h n hR) hr
def av.seen:av cod→av cod
 | .own u l _=>.aB u l
 | .arr u l _=>.aB u l
 | o=>o
def St.view (k:Nat) (st:St cod):St cod:={st with heap:=st.heap.set k (getObj st.heap k).seen}
theorem iA {env:Env} {N:Nat} {x:HV} {w:World} {M:Nat→Prop} {o:av cod} (h:bH env N x w M o):bH env N x w M o.seen∧∀b,o.seen.has x b→o.has x b:=by
 cases o with
 | arr t l ty=>
   obtain ⟨h1,h2⟩:=dR (ty:=ty) h (.inl rfl)
   exact ⟨⟨h1,h2,fun _=>bi h (b:=x.block) rfl⟩,fun b hb=>hb.2⟩
 | own t l ty=>
   obtain ⟨h1,h2⟩:=dR h (.inr (.inl rfl))
   have key:l≠[]→x.val.ownBlock=some x.block:=fun hl=>by
    obtain ⟨_,_,g3,_,g5⟩:=h;rcases g3.2 with ⟨hv,hn⟩ | ⟨g,cap,eW,hv,hb,hg,_⟩
    ·exact absurd (List.eq_nil_of_length_eq_zero hn) hl
    ·have e:=g5 _ _ _ hv;simp only [Addr.mk.injEq,and_true] at e;rw [hv,←e];rfl
   exact ⟨⟨h1,h2,fun hl=>bi h (b:=x.block) (key hl)⟩,fun b hb=>by rw [hb.2];exact key hb.1⟩
 | _=>exact ⟨h,fun _ hb=>hb⟩
theorem Xk {st:St cod} {b:aC} {a:Act} {w:World} (k:Nat) (hR:Rel st b a w):Rel (st.view k) b a w:=by
 obtain ⟨env,hF,hd,G,gY,so,zZ,tC⟩:=hR;have hlen:(st.heap.set k (getObj st.heap k).seen).length=st.heap.length:=List.length_set
 have aL:∀(i:Nat) (o:av cod),(st.heap.set k (getObj st.heap k).seen)[i]? =some o→∃o0,st.heap[i]? =some o0∧(o=o0∨o=o0.seen):=fun i o h=>by
  by_cases e:i=k
  ·subst e
   have hl:i < st.heap.length:=by
    have:=(List.getElem?_eq_some_iff.1 h).1
    rwa [List.length_set] at this
   rw [List.getElem?_set_self hl] at h;refine ⟨getObj st.heap i,?_,.inr (Option.some.inj h).symm⟩;unfold getObj;rw [List.getD,List.getElem?_eq_getElem hl];rfl
  ·rw [List.getElem?_set_ne (Ne.symm e)] at h;exact ⟨o,h,.inl rfl⟩
 have XC:∀o0 o:av cod,(o=o0∨o=o0.seen)→(o.wr=true→o0.wr=true)∧(o.bQ=true→o0.bQ=true):=fun o0 o h=>by
  rcases h with rfl | rfl
  ·exact ⟨id,id⟩
  ·cases o0<;>simp [av.seen,av.wr,av.bQ]
 refine ⟨env,by simp only [St.view,hlen];exact hF,hd,⟨fun i o h=>?_,fun i j o o' c bP h h' hw hc cY=>?_,G.sr⟩,gY,so,by simp only [St.view,hlen];exact zZ,fun i o hi h dS=>?_⟩
 ·simp only [St.view,hlen];obtain ⟨o0,h0,rfl | rfl⟩:=aL i o h
  ·exact G.obj i _ h0
  ·exact (iA (G.obj i _ h0)).1
 ·obtain ⟨o0,h0,e0⟩:=aL i o h;obtain ⟨o0',ye,e0'⟩:=aL j o' h';refine G.sep i j o0 o0' c bP h0 ye ((XC _ _ e0).1 hw) ?_ ?_
  ·rcases e0 with rfl | rfl
   ·exact hc
   ·exact (iA (G.obj i _ h0)).2 c hc
  ·rcases e0' with rfl | rfl
   ·exact cY
   ·exact (iA (G.obj j _ ye)).2 c cY
 ·obtain ⟨o0,h0,e0⟩:=aL i o h;exact tC i o0 hi h0 ((XC _ _ e0).2 dS)
theorem af.view {P:Program} {b0:aC} {k:List Item} {st:St cod} {Q:St cod→Prop} (h:Nat) {bg:St cod} (e:st.view h=bg) (hr:af P b0 k bg Q):af P b0 k st Q:=
 af.weaken (fun a w hR=>by rw [←e];exact Xk h hR) hr
theorem af.iW {P:Program} {b0:aC} {k:List Item} {st:St cod} {Q:St cod→Prop} (hs:List Nat) (d:Nat) {N:Nat} (hb:b0.n=N) (h1:hs.Nodup) (h2:(hs.all fun h=>decide (h < st.heap.length))=true) (h3:((List.range N).all fun i=>hs[i]? ==some i)=true) {bg:St cod} (e:(st.pick hs).soft d=bg) (hr:af P b0 k bg Q):af P b0 k st Q:=
 af.pick hs h1 (fun h hh=>by simpa using List.all_eq_true.1 h2 h hh) (fun i hi=>by simpa using List.all_eq_true.1 h3 i (by rw [←hb];simpa using hi)) rfl (af.soft d e hr)
end
end Sym
end Go.Proofs.YtcjagpfbhnmggaaGreatDoor
