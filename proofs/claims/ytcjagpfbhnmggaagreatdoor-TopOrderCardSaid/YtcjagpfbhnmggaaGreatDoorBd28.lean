/- Parts of the proof. -/
import Derived.Test.YtcjagpfbhnmggaaGreatDoorBd27
namespace Go.Proofs.YtcjagpfbhnmggaaGreatDoor
namespace Sym
open Go.RowKit
section
variable {cod:Nat→aO}
def St.open (h i:Nat) (st:St cod):St cod:=match getObj st.heap h with
 | .cL t LL _=>{st with heap:=st.heap.set h (.cL t LL (some (i,.ai st.heap.length 0 (LL.getD i []).length false)))++[.aB t (LL.getD i [])]}
 | _=>st
theorem VG {st:St cod} {b:aC} {a:Act} {w:World} (h i:Nat) {t:Nat} {LL:List (List (cod t).α)} {op:Option (Nat×Cell)} (ho:getObj st.heap h= .cL t LL op) (hi:i < LL.length) (hR:Rel st b a w):Rel (st.open h i) b a w:=by
 have Gq:st.open h i={st with heap:=st.heap.set h (.cL t LL (some (i,.ai st.heap.length 0 (LL.getD i []).length false)))++[.aB t (LL.getD i [])]}:=by
  unfold St.open;rw [ho]
 rw [Gq];obtain ⟨env,hF,hd,G,gY,so,zZ,tC⟩:=hR;have dN:=aE ho (by simp);have cI:h < st.heap.length:=(List.getElem?_eq_some_iff.1 dN).1;obtain ⟨h1,vs,h2,h3,h4,h5,h6,h7⟩:=G.obj h _ dN;have hv:vs[i]? =some (vs[i]'(by omega)):=List.getElem?_eq_getElem (by omega);generalize vs[i]'(by omega)=v at hv;have hl:LL[i]? =some (LL.getD i []):=by rw [List.getD,List.getElem?_eq_getElem hi];rfl
 generalize LL.getD i []=l at*;obtain ⟨A,k,e1,e2,e3,e4⟩:=h6 i v l hv hl
 obtain ⟨x,hx,hxe⟩:∃x:HV,(∀b o,A=some ⟨b,o,none⟩→x=⟨b,o,(cod t).size,undef,[]⟩)∧x.fE=(cod t).size:=by
  cases A with
  | none=>exact ⟨⟨0,0,(cod t).size,undef,[]⟩,(fun b o e=>by cases e),rfl⟩
  | some a=>exact ⟨⟨a.block,a.off,(cod t).size,undef,[]⟩,(fun b o e=>by cases e;rfl),rfl⟩
 have vC:bH (env.set st.heap.length x) (st.heap.length+1) x w b.Ar (.aB t l:av cod):=by
  refine ⟨hxe,fun j u hu=>?_,fun bP=>?_⟩
  ·have bP:l≠[]:=by
    rintro rfl;simp [aN] at hu
   obtain ⟨b,o,g1,g2,g3⟩:=e4 bP;rw [hx b o g1];exact g3 j u hu
  ·obtain ⟨b,o,g1,g2,g3⟩:=e4 bP;rw [hx b o g1];exact g2
 have hlen:(st.heap.set h (.cL t LL (some (i,.ai st.heap.length 0 l.length false)))++[.aB t l]:Heap cod).length=st.heap.length+1:=by simp
 have z6:=Env.l6 env st.heap.length x
 have aL:∀(j:Nat) (o:av cod),(st.heap.set h (.cL t LL (some (i,.ai st.heap.length 0 l.length false)))++[.aB t l]:Heap cod)[j]? =some o→(j≠h∧j < st.heap.length∧st.heap[j]? =some o)∨(j=h∧o= .cL t LL (some (i,.ai st.heap.length 0 l.length false)))∨(j=st.heap.length∧o= .aB t l):=fun j o hj=>by
  rcases Nat.lt_or_ge j st.heap.length with gP | gP
  ·rw [List.getElem?_append_left (by simpa using gP)] at hj;by_cases e:j=h
   ·subst e;rw [List.getElem?_set_self cI] at hj;exact .inr (.inl ⟨rfl,(Option.some.inj hj).symm⟩)
   ·rw [List.getElem?_set_ne (Ne.symm e)] at hj;exact .inl ⟨e,gP,hj⟩
  ·rw [List.getElem?_append_right (by simpa using gP)] at hj;simp only [List.length_set] at hj
   have:j - st.heap.length=0:=by
    rcases Nat.eq_zero_or_pos (j - st.heap.length) with e | e
    ·exact e
    ·rw [List.getElem?_eq_none (by simp;omega)] at hj;cases hj
   rw [this] at hj;exact .inr (.inr ⟨by omega,(Option.some.inj hj).symm⟩)
 have ahn:∀c,(av.aB t l:av cod).has x c→(av.cL t LL op:av cod).has (env h) c:=fun c hc=>by
  obtain ⟨bP,rfl⟩:=hc;obtain ⟨b,o,g1,g2,g3⟩:=e4 bP;have hxb:x.block=b:=by rw [hx b o g1]
  refine .inr ⟨vs,h2,v,List.mem_of_getElem? hv,o,l.length,k,?_,List.length_pos_iff.2 bP⟩;rw [e1,g1,hxb]
 refine ⟨env.set st.heap.length x,?_,hd,⟨fun j o hj=>?_,fun j j' o o' c bP hj EX hw hc cY=>?_,G.sr⟩,gY,fun q hq hn=>?_,?_,fun q o hq hqo dS=>?_⟩
 ·simp only [hlen];exact ee (fun _ _ hr=>oM (by omega) z6 hr) hF
 ·simp only [hlen];rcases aL j o hj with ⟨g1,g2,g3⟩ | ⟨rfl,rfl⟩ | ⟨rfl,rfl⟩
  ·rw [Env.aD _ _ (by omega)];exact fZ (by omega) z6 (G.obj j o g3)
  ·rw [Env.aD _ _ (by omega)];refine ⟨h1,vs,h2,h3,h4,h5,h6,fun p hp=>?_⟩;simp only [Option.some.injEq] at hp;subst hp;refine ⟨v,hv,by omega,A,k,e1,e2,e3,(fun e=>by cases e),fun hp=>?_⟩;obtain ⟨b,o,g1,g2,g3⟩:=e4 (List.length_pos_iff.1 hp);rw [g1,Env.aU,hx b o g1];simp [HV.addr]
  ·rw [Env.aU];exact vC
 ·rcases aL j o hj with ⟨g1,g2,g3⟩ | ⟨rfl,rfl⟩ | ⟨rfl,rfl⟩
  ·rw [Env.aD _ _ (by omega)] at hc;rcases aL j' o' EX with ⟨Pn,Ro,Xq⟩ | ⟨rfl,rfl⟩ | ⟨rfl,rfl⟩
   ·rw [Env.aD _ _ (by omega)] at cY;exact G.sep j j' o o' c bP g3 Xq hw hc cY
   ·rw [Env.aD _ _ (by omega)] at cY;exact G.sep j _ o (.cL t LL op) c bP g3 dN hw hc cY
   ·rw [Env.aU] at cY;exact G.sep j h o (.cL t LL op) c g1 g3 dN hw hc (ahn c cY)
  ·cases hw
  ·cases hw
 ·rw [Env.aD _ _ (by omega)];exact so q hq hn
 ·simp only [hlen];omega
 ·rcases aL q o hqo with ⟨g1,g2,g3⟩ | ⟨rfl,rfl⟩ | ⟨rfl,rfl⟩
  ·exact tC q o hq g3 dS
  ·cases dS
  ·cases dS
def av.shut:av cod→av cod
 | .cL t LL _=>.cL t LL none
 | o=>o
def St.close (k:Nat) (st:St cod):St cod:={st with heap:=st.heap.set k (getObj st.heap k).shut}
theorem ON {st:St cod} {b:aC} {a:Act} {w:World} (k:Nat) (hR:Rel st b a w):Rel (st.close k) b a w:=by
 obtain ⟨env,hF,hd,G,gY,so,zZ,tC⟩:=hR;have hlen:(st.heap.set k (getObj st.heap k).shut).length=st.heap.length:=List.length_set
 have aL:∀(i:Nat) (o:av cod),(st.heap.set k (getObj st.heap k).shut)[i]? =some o→∃o0,st.heap[i]? =some o0∧(o=o0∨o=o0.shut):=fun i o h=>by
  by_cases e:i=k
  ·subst e
   have hl:i < st.heap.length:=by
    have:=(List.getElem?_eq_some_iff.1 h).1
    rwa [List.length_set] at this
   rw [List.getElem?_set_self hl] at h;refine ⟨getObj st.heap i,?_,.inr (Option.some.inj h).symm⟩;unfold getObj;rw [List.getD,List.getElem?_eq_getElem hl];rfl
  ·rw [List.getElem?_set_ne (Ne.symm e)] at h;exact ⟨o,h,.inl rfl⟩
 have XC:∀o0 o:av cod,(o=o0∨o=o0.shut)→(o.wr=true→o0.wr=true)∧(o.bQ=true→o0.bQ=true)∧∀x c,o.has x c→o0.has x c:=fun o0 o h=>by
  rcases h with rfl | rfl
  ·exact ⟨id,id,fun _ _ h=>h⟩
  ·cases o0<;>exact ⟨id,id,fun _ _ h=>h⟩
 have aiA:∀(o0:av cod) x,bH env st.heap.length x w b.Ar o0→bH env st.heap.length x w b.Ar o0.shut:=fun o0 x h=>by
  cases o0<;>try exact h
  obtain ⟨h1,vs,h2,h3,h4,h5,h6,h7⟩:=h;exact ⟨h1,vs,h2,h3,h4,h5,h6,fun p hp=>by cases hp⟩
 refine ⟨env,by simp only [St.close,hlen];exact hF,hd,⟨fun i o h=>?_,fun i j o o' c bP h h' hw hc cY=>?_,G.sr⟩,gY,so,by simp only [St.close,hlen];exact zZ,fun i o hi h dS=>?_⟩
 ·simp only [St.close,hlen];obtain ⟨o0,h0,rfl | rfl⟩:=aL i o h
  ·exact G.obj i _ h0
  ·exact aiA _ _ (G.obj i _ h0)
 ·obtain ⟨o0,h0,e0⟩:=aL i o h;obtain ⟨o0',ye,e0'⟩:=aL j o' h';exact G.sep i j o0 o0' c bP h0 ye ((XC _ _ e0).1 hw) ((XC _ _ e0).2.2 _ _ hc) ((XC _ _ e0').2.2 _ _ cY)
 ·obtain ⟨o0,h0,e0⟩:=aL i o h;exact tC i o0 hi h0 ((XC _ _ e0).2.1 dS)
theorem af.close {P:Program} {b0:aC} {k:List Item} {st:St cod} {Q:St cod→Prop} (h:Nat) {bg:St cod} (e:st.close h=bg) (hr:af P b0 k bg Q):af P b0 k st Q:=
 af.weaken (fun a w hR=>by rw [←e];exact ON h hR) hr
theorem af.open {P:Program} {b0:aC} {k:List Item} {st:St cod} {Q:St cod→Prop} (h i:Nat) {t:Nat} {LL:List (List (cod t).α)} {op:Option (Nat×Cell)} (ho:getObj st.heap h= .cL t LL op) (hi:i < LL.length) {bg:St cod} (e:st.open h i=bg) (hr:af P b0 k bg Q):af P b0 k st Q:=
 af.weaken (fun a w hR=>by rw [←e];exact VG h i ho hi hR) hr
end
end Sym
section
open Sym Go.RowKit
noncomputable section
set_option maxRecDepth 100000
set_option maxHeartbeats 4000000
namespace F
def uq (acc:List Sp):List Sp→List Sp
 | []=>acc
 | x::r=>uq (if acc.getLast?=some x then acc else acc++[x]) r
def iX (l:List Sp):List Sp:=uq [] l
def uqB (l:List Sp):Bool:=decide (iX l=l)
def nS (l:List Sp):List Sp:=iX l++List.replicate (l.length - (iX l).length) dq
end F
def iu:bA:=[(4,[0,3],1),(9,[4,0,5,3],1)]
theorem abT (l:List (Int×Int×Int×Int×Int×Int)) (n:Nat):mD lF iu Tryz.f43.results.toList ([.own 2 l 68]:Heap cod) 400 [.code (aj Tryz.f43)] ⟨ay Tryz.f43 [.c (.own 0 n)],([.own 2 l 68]:Heap cod)⟩=
 cond (decide (Int.ofNat n < 2)) (
 .ret (.fin (.c (.own 0 (n))) [.own 2 l 68])) (
 .ret (.cut (cutAt Tryz.f43 4) ⟨bc 57 [(0,.c (.own 0 (n))),(2,.c (.int .i64 1))],[.own 2 l 68]⟩)):=by kernel_rfl
def HI (l:List (Int×Int×Int×Int×Int×Int)) (n:Nat) (k:Int):St cod:=⟨bc 57 [(0,.c (.own 0 (n))),(2,.c (.int .i64 k))],[.own 2 l 68]⟩
theorem Ty (l:List (Int×Int×Int×Int×Int×Int)) (n:Nat) (k:Int):mD lF iu Tryz.f43.results.toList ([.own 2 l 68]:Heap cod) 400 (cutAt Tryz.f43 4) (HI l n k)=
 (let q0:=List.getD l (0+Int.toNat (k - 1)) (cod 2).d;
 let q1:=List.getD l (0+Int.toNat k) (cod 2).d;
 cond (decide (k < Int.ofNat n)) (.aa (((0:Int)≤k∧k < Int.ofNat n)) (.aa (0+Int.toNat k < List.length l) (.aa (ae (k - 1)) (.aa (((0:Int)≤k - 1∧k - 1 < Int.ofNat n)) (.aa (0+Int.toNat (k - 1) < List.length l) (cond (decide (q1.1=q0.1)&&(decide (q1.2.1=q0.2.1)&&(decide (q1.2.2.1=q0.2.2.1)&&(decide (q1.2.2.2.1=q0.2.2.2.1)&&(decide (q1.2.2.2.2.1=q0.2.2.2.2.1)&&decide (q1.2.2.2.2.2=q0.2.2.2.2.2)))))) (.aa (((0:Int)≤k∧k≤Int.ofNat n)) (.ret (.cut (cutAt Tryz.f43 9) ⟨bc 55 [(0,.c (.own 0 (n))),(2,.c (.int .i64 k)),(0,.c (.ai 0 (0+Int.toNat k) (n - Int.toNat k) false)),(0,.c (.int .i64 1))],[.own 2 l 68]⟩))) (.aa (ae (k+1)) (.ret (.cut (cutAt Tryz.f43 4) ⟨bc 57 [(0,.c (.own 0 (n))),(2,.c (.int .i64 (k+1)))],[.own 2 l 68]⟩))))))))) (.ret (.fin (.c (.own 0 (n))) [.own 2 l 68]))):=by kernel_rfl
def HJ (_:List (Int×Int×Int×Int×Int×Int)) (n:Nat) (r:List (Int×Int×Int×Int×Int×Int)) (k j:Int) (s m:Nat):St cod:=⟨bc 55 [(0,.c (.own 0 (n))),(2,.c (.int .i64 k)),(0,.c (.ai 0 s m false)),(0,.c (.int .i64 j))],([.own 2 r 68]:Heap cod)⟩
theorem Tz (l:List (Int×Int×Int×Int×Int×Int)) (n:Nat) (r:List (Int×Int×Int×Int×Int×Int)) (k j:Int) (s m:Nat):mD lF iu Tryz.f43.results.toList ([.own 2 l 68]:Heap cod) 400 (cutAt Tryz.f43 9) (HJ l n r k j s m)=
 (let q0:=List.getD r (s+Int.toNat j) (cod 2).d;
 let q1:=List.getD r (s+Int.toNat (j - 1)) (cod 2).d;
 cond (decide (j < Int.ofNat m)) (.aa (((0:Int)≤j∧j < Int.ofNat m)) (.aa (s+Int.toNat j < List.length r) (.aa (ae (j - 1)) (.aa (((0:Int)≤j - 1∧j - 1 < Int.ofNat m)) (.aa (s+Int.toNat (j - 1) < List.length r) (cond (!(decide (q0.1=q1.1)&&(decide (q0.2.1=q1.2.1)&&(decide (q0.2.2.1=q1.2.2.1)&&(decide (q0.2.2.2.1=q1.2.2.2.1)&&(decide (q0.2.2.2.2.1=q1.2.2.2.2.1)&&decide (q0.2.2.2.2.2=q1.2.2.2.2.2))))))) (.aa (((0:Int)≤j∧j < Int.ofNat m)) (.aa (s+Int.toNat j < List.length r) (.aa (((0:Int)≤k∧k < Int.ofNat n)) (.aa (0+Int.toNat k < List.length r) (.aa (ae (k+1)) (.aa (ae (j+1)) (.ret (.cut (cutAt Tryz.f43 9) ⟨bc 55 [(0,.c (.own 0 (n))),(2,.c (.int .i64 (k+1))),(0,.c (.ai 0 (s) (m) false)),(0,.c (.int .i64 (j+1)))],[.own 2 (List.set r (0+Int.toNat k) (q0.1,q0.2.1,q0.2.2.1,q0.2.2.2.1,q0.2.2.2.2.1,q0.2.2.2.2.2)) 68]⟩)))))))) (.aa (ae (j+1)) (.ret (.cut (cutAt Tryz.f43 9) ⟨bc 55 [(0,.c (.own 0 (n))),(2,.c (.int .i64 k)),(0,.c (.ai 0 (s) (m) false)),(0,.c (.int .i64 (j+1)))],[.own 2 r 68]⟩))))))))) (.aa (((0:Int)≤k∧k≤Int.ofNat n)) (.aa (0+Int.toNat k+(n - Int.toNat k)≤List.length r) (.aa (((0:Int)≤k∧k≤Int.ofNat n)) (.ret (.fin (.c (.ai 0 0 k.toNat false)) [.own 2 ((List.take (0+Int.toNat k) r)++((List.replicate (n - Int.toNat k) (0,0,0,0,0,0))++(List.drop (0+Int.toNat k+(n - Int.toNat k)) r))) 68])))))):=by kernel_rfl
def CZ (t:Nat) (ty:TypeId):av cod→Option (List (cod t).α)
 | .own u l mw=>if h:u=t then (if mw=ty then some (h▸l) else none) else none
 | _=>none
def Ei:aH cod:=fun args H=>match args,H with
 | [.c (.own 0 n)],[o0]=>(match CZ 2 68 o0 with
   | some l=>.aa (n=List.length l∧n≤1000000) (.ite (F.uqB l) (.ret (.c (.own 0 n),[.own 2 l 68])) (.ret (.c (.ai 0 0 (F.iX l).length false),[.own 2 (F.nS l) 68])))
   | none=>.fail)
 | _,_=>.fail
def Wd:aH cod:=fun args H=>match args,H with
 | [.c (.own 0 n)],[o0]=>(match CZ 2 68 o0 with
   | some l=>.aa (n=List.length l∧n≤1000000) (.ret (.c (.ai 0 0 (F.iX l).length false),[.own 2 (F.nS l) 68]))
   | none=>.fail)
 | _,_=>.fail
theorem uC {t:Nat} {ty:TypeId} {o:av cod} {l:List (cod t).α} (h:CZ t ty o=some l):o= .own t l ty:=by
 unfold CZ at h;split at h
 ·split at h
  ·rename_i e;subst e;split at h
   ·rename_i e;subst e;cases h;rfl
   ·cases h
  ·cases h
 ·cases h
def F.e6 (x y:F.Sp):Bool:=decide (x.1=y.1)&&(decide (x.2.1=y.2.1)&&(decide (x.2.2.1=y.2.2.1)&&(decide (x.2.2.2.1=y.2.2.2.1)&&(decide (x.2.2.2.2.1=y.2.2.2.2.1)&&decide (x.2.2.2.2.2=y.2.2.2.2.2)))))
theorem eq6 (x y:F.Sp):F.e6 x y=decide (x=y):=by
 obtain ⟨a1,a2,a3,a4,a5,a6⟩:=x;obtain ⟨b1,b2,b3,b4,b5,b6⟩:=y;unfold F.e6;rw [Bool.eq_iff_iff];simp
theorem Bp {l:List F.Sp} {i:Nat} (h:i < l.length):l.drop i=l.getD i F.dq::l.drop (i+1):=by
 rw [List.drop_eq_getElem_cons h,List.getD,List.getElem?_eq_getElem h];rfl
theorem ur {l:List F.Sp} {i:Nat} (h:i < l.length):l.take (i+1)=l.take i++[l.getD i F.dq]:=by
 rw [List.take_succ_eq_append_getElem h,List.getD,List.getElem?_eq_getElem h];rfl
theorem abS (l:List F.Sp) (n:Nat) (hn:n=l.length) (hm:n≤1000000) (b0:aC) (hb:b0.n=1) (R:SV) (H':Heap cod) (s m:Nat) (hs:s+m=n)
 (hR:F.iX l≠l→SV.c (.ai 0 0 (F.iX l).length false)=R∧[.own 2 (F.nS l) 68]=H'):
 ∀(q:Nat) (r:List F.Sp) (k j:Int),1≤j→j+q=m→0≤k→k.toNat < s+j.toNat→r.length=n→(∀i,k.toNat≤i→r.getD i F.dq=l.getD i F.dq)→F.iX l=F.uq (r.take k.toNat) (l.drop (s+j.toNat))→(r.take k.toNat).getLast?=some (l.getD (s+j.toNat - 1) F.dq)→
 Sym.af Tryz.prog b0 (cutAt Tryz.f43 9) (HJ l n r k j s m) (Sym.eM Tryz.prog Tryz.f43 ([.own 2 l 68]:Heap cod) R H'):=by
 intro q
 induction q with
 | zero=>
   intro r k j h1 h2 h3 h4 h5 h6 h7 h8;have hp:s+j.toNat=n:=by omega
   rw [hp,List.drop_eq_nil_of_le (by omega),F.uq] at h7;have hlen:(F.iX l).length=k.toNat:=by rw [h7,List.length_take];omega
   obtain ⟨g1,g2⟩:=hR (fun e=>by
    have:=congrArg List.length e;omega)
   refine af.vU (cfg:=lF) iZ mixed iu 400 (H:=([.own 2 l 68]:Heap cod)) hb (Tz l n r k j s m) ?_;simp only [T.wp,T.wp_cond,bF,decide_eq_true_eq,Nat.zero_add];have i1:(0:Int)≤k∧k≤Int.ofNat n:=by simp only [Int.ofNat_eq_natCast];omega
   refine ap (by simp only [Int.ofNat_eq_natCast];omega) ⟨i1,by omega,i1,?_,?_⟩
   ·rw [←g1,hlen]
   ·rw [←g2];have e1:List.drop (k.toNat+(n - k.toNat)) r=[]:=List.drop_eq_nil_of_le (by omega);rw [e1,List.append_nil,←h7];unfold F.nS;rw [hlen,←hn]
    rfl
 | succ q ih=>
   intro r k j h1 h2 h3 h4 h5 h6 h7 h8;have hp:s+j.toNat < l.length:=by omega
   have j1:(j - 1).toNat=j.toNat - 1:=by omega
   have hj:(j+1).toNat=j.toNat+1:=by omega
   have hk:(k+1).toNat=k.toNat+1:=by omega
   have e1:r.getD (s+j.toNat) F.dq=l.getD (s+j.toNat) F.dq:=h6 _ (by omega)
   have e2:r.getD (s+(j - 1).toNat) F.dq=l.getD (s+j.toNat - 1) F.dq:=by
    rw [j1,show s+(j.toNat - 1)=s+j.toNat - 1 by omega];exact h6 _ (by omega)
   rw [Bp hp,F.uq,h8] at h7;refine af.vU (cfg:=lF) iZ mixed iu 400 (H:=([.own 2 l 68]:Heap cod)) hb (Tz l n r k j s m) ?_;simp only [T.wp,T.wp_cond,bF,decide_eq_true_eq,Nat.zero_add];have i1:(0:Int)≤j∧j < Int.ofNat m:=by simp only [Int.ofNat_eq_natCast];omega
   have i2:(0:Int)≤j - 1∧j - 1 < Int.ofNat m:=by simp only [Int.ofNat_eq_natCast];omega
   refine aq i1.2 ⟨i1,by omega,by unfold ae;omega,i2,by omega,?_⟩;by_cases c:l.getD (s+j.toNat - 1) F.dq=l.getD (s+j.toNat) F.dq
   ·rw [if_pos (by rw [c])] at h7;have nx:=ih r k (j+1) (by omega) (by omega) h3 (by omega) h5 h6 (by rw [hj];exact h7) (by rw [hj,show s+(j.toNat+1) - 1=s+j.toNat by omega,h8,c]);refine ap ?_ ⟨by unfold ae;omega,nx⟩;change ¬(!F.e6 (r.getD (s+j.toNat) F.dq) (r.getD (s+(j - 1).toNat) F.dq))=true;rw [eq6,e1,e2,c,decide_eq_true rfl];decide
   ·have c':¬(some (l.getD (s+j.toNat - 1) F.dq)=some (l.getD (s+j.toNat) F.dq)):=fun e=>c (Option.some.inj e);rw [if_neg c'] at h7;have fx:k.toNat < r.length:=by omega
    have ht:(r.set k.toNat (l.getD (s+j.toNat) F.dq)).take (k+1).toNat=r.take k.toNat++[l.getD (s+j.toNat) F.dq]:=by
     rw [hk,ur (by rw [List.length_set];omega),List.take_set_of_le (Nat.le_refl _)];congr 2;rw [List.getD,List.getElem?_set_self fx];rfl
    have nx:=ih (r.set k.toNat (l.getD (s+j.toNat) F.dq)) (k+1) (j+1) (by omega) (by omega) (by omega) (by omega) (by rw [List.length_set];exact h5) (fun i hi=>by
     rw [←h6 i (by omega)];simp only [List.getD];rw [List.getElem?_set_ne (by omega)]) (by rw [ht,hj];exact h7) (by rw [ht,hj,show s+(j.toNat+1) - 1=s+j.toNat by omega];simp)
    rw [←e1] at nx;refine aq ?_ ⟨i1,by omega,by simp only [Int.ofNat_eq_natCast];omega,by omega,by unfold ae;omega,by unfold ae;omega,nx⟩;change (!F.e6 (r.getD (s+j.toNat) F.dq) (r.getD (s+(j - 1).toNat) F.dq))=true;rw [eq6,e1,e2,decide_eq_false (fun e=>c e.symm)];rfl
theorem abR (l:List F.Sp) (n:Nat) (hn:n=l.length) (hm:n≤1000000) (b0:aC) (hb:b0.n=1) (R:SV) (H':Heap cod)
 (hR:F.iX l≠l→SV.c (.ai 0 0 (F.iX l).length false)=R∧[.own 2 (F.nS l) 68]=H') (hR2:F.iX l=l→SV.c (.own 0 n)=R∧[.own 2 l 68]=H'):
 ∀(q:Nat) (k:Int),1≤k→k+q=n→F.iX l=F.uq (l.take k.toNat) (l.drop k.toNat)→(l.take k.toNat).getLast?=some (l.getD (k.toNat - 1) F.dq)→
 Sym.af Tryz.prog b0 (cutAt Tryz.f43 4) (HI l n k) (Sym.eM Tryz.prog Tryz.f43 ([.own 2 l 68]:Heap cod) R H'):=by
 intro q
 induction q with
 | zero=>
   intro k h1 h2 h3 h4;rw [List.drop_eq_nil_of_le (by omega),F.uq,List.take_of_length_le (by omega)] at h3;refine af.vU (cfg:=lF) iZ mixed iu 400 (H:=([.own 2 l 68]:Heap cod)) hb (Ty l n k) ?_;simp only [T.wp,T.wp_cond,bF,decide_eq_true_eq,Nat.zero_add]
   exact ap (by simp only [Int.ofNat_eq_natCast];omega) (hR2 h3)
 | succ q ih=>
   intro k h1 h2 h3 h4;have hp:k.toNat < l.length:=by omega
   have j1:(k - 1).toNat=k.toNat - 1:=by omega
   have hk:(k+1).toNat=k.toNat+1:=by omega
   rw [Bp hp,F.uq,h4] at h3;refine af.vU (cfg:=lF) iZ mixed iu 400 (H:=([.own 2 l 68]:Heap cod)) hb (Ty l n k) ?_;simp only [T.wp,T.wp_cond,bF,decide_eq_true_eq,Nat.zero_add];have i1:(0:Int)≤k∧k < Int.ofNat n:=by simp only [Int.ofNat_eq_natCast];omega
   have i2:(0:Int)≤k - 1∧k - 1 < Int.ofNat n:=by simp only [Int.ofNat_eq_natCast];omega
   refine aq i1.2 ⟨i1,by omega,by unfold ae;omega,i2,by omega,?_⟩;by_cases c:l.getD (k.toNat - 1) F.dq=l.getD k.toNat F.dq
   ·rw [if_pos (by rw [c])] at h3;have nx:=abS l n hn hm b0 hb R H' k.toNat (n - k.toNat) (by omega) hR (n - k.toNat - 1) l k 1 (by omega) (by omega) (by omega) (by simp) hn.symm (fun i _=>rfl) h3 (by rw [h4,c];rfl);refine aq ?_ ⟨by simp only [Int.ofNat_eq_natCast];omega,nx⟩;change F.e6 (l.getD k.toNat F.dq) (l.getD (k - 1).toNat F.dq)=true;rw [eq6,j1,c,decide_eq_true rfl]
   ·have c':¬(some (l.getD (k.toNat - 1) F.dq)=some (l.getD k.toNat F.dq)):=fun e=>c (Option.some.inj e);rw [if_neg c'] at h3;have nx:=ih (k+1) (by omega) (by omega) (by rw [hk,ur hp];exact h3) (by rw [hk,ur hp];simp);refine ap ?_ ⟨by unfold ae;omega,nx⟩;change ¬F.e6 (l.getD k.toNat F.dq) (l.getD (k - 1).toNat F.dq)=true;rw [eq6,j1,decide_eq_false (fun e=>c e.symm)];decide
theorem JD:dX Tryz.prog cod 43 Ei:=gg (cfg:=lF) Tryz.func43 rfl rfl _ fun args H r H' hg b0 hb=>by
 unfold Ei at hg;split at hg
 ·split at hg
  ·rename_i l hx;cases uC hx;rename_i n _;simp only [T.ah,T.wp,Prod.mk.injEq,F.uqB,decide_eq_true_eq,decide_eq_false_iff_not] at hg;obtain ⟨⟨hn,hm⟩,g1,g2⟩:=hg;have hb:b0.n=1:=hb;refine af.vU (cfg:=lF) iZ mixed iu 400 (H:=([.own 2 l 68]:Heap cod)) hb (abT l n) ?_;simp only [T.wp,T.wp_cond,bF,decide_eq_true_eq];by_cases c:n < 2
   ·refine aq (by simp only [Int.ofNat_eq_natCast];omega) (g1 ?_)
    match l,hn with
    | [],_=>rfl
    | [x],_=>rfl
    | _::_::_,hn=>simp at hn;omega
   ·have hp:0 < l.length:=by omega
    have nx:=abR l n hn hm b0 hb r H' g2 g1 (n - 1) 1 (by omega) (by omega) (by
     match l,hp with
     | x::t,_=>rfl) (by
     match l,hp with
     | x::t,_=>rfl)
    exact ap (by simp only [Int.ofNat_eq_natCast];omega) nx
  ·exact hg.elim
 ·exact hg.elim
theorem dX.soft {g:FuncId} {s s0:aH cod} (h0:dX Tryz.prog cod g s0) (h:∀args H r H',(s args H).ah (r,H')→∃r0,(s0 args H).ah (r0,H')∧r=r0.aX Cell.xp):dX Tryz.prog cod g s:=by
 refine ⟨h0.enters,fun args H env w vs r H' G ha hg=>?_⟩;obtain ⟨r0,hg0,rfl⟩:=h args H r H' hg;refine (h0.calls args H env w vs r0 H' G ha hg0).mono ?_;rintro e w' ⟨v,aK,h1,h2,h3,h4⟩;exact ⟨v,aK,h1,h2,iH (fun c v hc=>oc hc) h3,h4⟩
theorem Ob {l:List F.Sp}:F.uqB l=true↔F.iX l=l:=decide_eq_true_iff
theorem MC {l:List F.Sp} (c:F.iX l=l):F.nS l=l:=by
 unfold F.nS;rw [c,Nat.sub_self,List.replicate_zero,List.append_nil]
theorem OW:dX Tryz.prog cod 43 Wd:=dX.soft JD fun args H r H' hg=>by
 unfold Wd at hg;split at hg
 ·split at hg
  ·rename_i l hx;cases uC hx;rename_i n _;simp only [T.ah,T.wp,Prod.mk.injEq] at hg;obtain ⟨⟨hn,hm⟩,rfl,rfl⟩:=hg;by_cases c:F.iX l=l
   ·refine ⟨.c (.own 0 n),?_,?_⟩
    ·unfold Ei;simp only [hx];refine ⟨⟨hn,hm⟩,fun _=>?_,fun h=>absurd (Ob.2 c) (by rw [h];decide)⟩;show (_,_)=(_,_);rw [MC c]
    ·rw [c,hn];rfl
   ·refine ⟨.c (.ai 0 0 (F.iX l).length false),?_,rfl⟩;unfold Ei;simp only [hx];exact ⟨⟨hn,hm⟩,fun h=>absurd (Ob.1 h) c,fun _=>rfl⟩
  ·exact hg.elim
 ·exact hg.elim
def MQ:aQ cod:=(41,.k NX)::II
theorem I3:cv Tryz.prog cod MQ:=.To HA iZ
def R6:aQ cod:=(43,.i Wd)::MQ
def oT:aT cod:=c9 R6
theorem jo:cv Tryz.prog cod R6:=.FJ OW I3
namespace F
def RA (x:Sp):Int:=qa x.1 x.2.1 x.2.2.1 x.2.2.2.1 x.2.2.2.2.1 x.2.2.2.2.2
def RB (l:List Sp):Nat→Nat→Int
 | 0,_=>0
 | q+1,i=>if RA (l.getD i dq)≠0 then RA (l.getD i dq) else (if 0 < i∧(l.getD i dq).2.1 < (l.getD (i - 1) dq).2.1 then 12 else RB l q (i+1))
def YB (l:List Sp):Int:=if 256 < l.length then 2 else RB l l.length 0
def mgF (f:List (List Sp)):Nat→Nat→Int
 | 0,_=>0
 | q+1,j=>if YB (f.getD j [])≠0 then YB (f.getD j []) else mgF f q (j+1)
def Ih (f:List (List Sp)):Int:=if 4 < f.length then 2 else mgF f f.length 0
def vF (f:List (List Sp)):List Sp:=iX (gM f.flatten)
def rB (f:List (List Sp)):List Sp:=nS (gM f.flatten)
end F
def ec:bA:=[(5,[13,14,15,4],40),(10,[6,22,13,14,15,4,23,24],40)]
theorem Vk (f:List (List (Int×Int×Int×Int×Int×Int))) (my:Bool):aI oT ec Tryz.f20.results.toList 1 400 [.code (aj Tryz.f20)] ⟨ay Tryz.f20 [.c (.ai 0 0 f.length my)],([.cL 2 f none]:Heap cod)⟩=
 (let q0:=List.length f;
 cond (decide (4 < Int.ofNat q0)) (.ret (.fin (.aP [.c (.own 1 0),.c (.int .i64 2)]) [.own 2 [] 68])) (.ret (.cut (cutAt Tryz.f20 5) ⟨bc 40 [(4,.c (.own 2 0)),(8,.c (.ai 0 0 q0 my)),(0,.c (.int .i64 (Int.ofNat q0))),(0,.c (.int .i64 0))],[.cL 2 (f) none,.own 2 [] 68,.own 2 [] 68]⟩))):=by kernel_rfl
def qg (f:List (List (Int×Int×Int×Int×Int×Int))) (my:Bool) (j:Int) (o:List (Int×Int×Int×Int×Int×Int)) (on:Nat):St cod:=⟨bc 40 [(4,.c (.own 1 on)),(8,.c (.ai 0 0 f.length my)),(0,.c (.int .i64 (Int.ofNat f.length))),(0,.c (.int .i64 j))],([.cL 2 f none,.own 2 o 68]:Heap cod)⟩
theorem Vl (f:List (List (Int×Int×Int×Int×Int×Int))) (my:Bool) (j:Int) (o:List (Int×Int×Int×Int×Int×Int)) (on:Nat):aI oT ec Tryz.f20.results.toList 1 400 (cutAt Tryz.f20 5) (qg f my j o on)=
 cond (decide (j < Int.ofNat f.length)) (
 .aa (((0:Int)≤j∧j < Int.ofNat f.length)) (
 .fail)) (
 .aa (List.length o≤1000000) (
 .aa ((on=List.length (F.gM o)∧on≤1000000)) (
 .ret (.fin (.aP [.c (.ai 1 0 (F.iX (F.gM o)).length false),.c (.int .i64 0)]) [.own 2 (F.nS (F.gM o)) 68])))):=by kernel_rfl
def vp (f:List (List (Int×Int×Int×Int×Int×Int))) (my:Bool) (j:Int) (o:List (Int×Int×Int×Int×Int×Int)) (on:Nat) (l:List (Int×Int×Int×Int×Int×Int)) (m:Nat) (jn:Nat):St cod:=⟨bc 40 [(4,.c (.own 1 on)),(8,.c (.ai 0 0 f.length my)),(0,.c (.int .i64 (Int.ofNat f.length))),(0,.c (.int .i64 j))],([.cL 2 f (some (jn,.ai 2 0 m false)),.own 2 o 68,.aB 2 l]:Heap cod)⟩
theorem PY (f:List (List (Int×Int×Int×Int×Int×Int))) (my:Bool) (j:Int) (o:List (Int×Int×Int×Int×Int×Int)) (on:Nat) (l:List (Int×Int×Int×Int×Int×Int)) (m:Nat) (jn:Nat):aI oT ec Tryz.f20.results.toList 1 400 (cutAt Tryz.f20 5) (vp f my j o on l m jn)=
 (let q0:=List.length f;
 cond (decide (j < Int.ofNat q0)) (.aa (((0:Int)≤j∧j < Int.ofNat q0)) (.aa ((0+Int.toNat j=jn∧jn < List.length f)) (cond (decide (256 < Int.ofNat m)) (.ret (.fin (.aP [.c (.own 1 0),.c (.int .i64 2)]) [.own 2 [] 68])) (.ret (.cut (cutAt Tryz.f20 10) ⟨bc 31 [(4,.c (.own 1 (on))),(1,.c (.ai 2 0 (m) false)),(6,.c (.ai 0 0 q0 my)),(0,.c (.int .i64 (Int.ofNat q0))),(0,.c (.int .i64 j)),(6,.c (.ai 2 0 (m) false)),(0,.c (.int .i64 (Int.ofNat m))),(0,.c (.int .i64 0))],[.cL 2 (f) (some ((jn),.ai 2 0 (m) false)),.own 2 o 68,.aB 2 l]⟩))))) (.aa (List.length o≤1000000) (.aa ((on=List.length (F.gM o)∧on≤1000000)) (.ret (.fin (.aP [.c (.ai 1 0 (F.iX (F.gM o)).length false),.c (.int .i64 0)]) [.own 2 (F.nS (F.gM o)) 68]))))):=by kernel_rfl
def vo (f:List (List (Int×Int×Int×Int×Int×Int))) (my:Bool) (j:Int) (o:List (Int×Int×Int×Int×Int×Int)) (on:Nat) (l:List (Int×Int×Int×Int×Int×Int)) (m:Nat) (jn:Nat) (i:Int):St cod:=⟨bc 31 [(4,.c (.own 1 (on))),(1,.c (.ai 2 0 (m) false)),(6,.c (.ai 0 0 f.length my)),(0,.c (.int .i64 (Int.ofNat f.length))),(0,.c (.int .i64 j)),(6,.c (.ai 2 0 (m) false)),(0,.c (.int .i64 (Int.ofNat m))),(0,.c (.int .i64 i))],[.cL 2 (f) (some ((jn),.ai 2 0 (m) false)),.own 2 o 68,.aB 2 l]⟩
theorem BN (f:List (List (Int×Int×Int×Int×Int×Int))) (my:Bool) (j:Int) (o:List (Int×Int×Int×Int×Int×Int)) (on:Nat) (l:List (Int×Int×Int×Int×Int×Int)) (m:Nat) (jn:Nat) (i:Int):aI oT ec Tryz.f20.results.toList 1 400 (cutAt Tryz.f20 10) (vo f my j o on l m jn i)=
 (let q0:=List.getD l (0+Int.toNat i) (cod 2).d;
 let q1:av cod:=.aF [.int .i64 (q0.1),.int .i64 (q0.2.1),.int .i64 (q0.2.2.1),.int .i64 (q0.2.2.2.1),.int .i64 (q0.2.2.2.2.1),.int .i64 (q0.2.2.2.2.2)] 68;
 let q2:=List.take m (List.drop 0 l);
 let q3:=List.length f;
 cond (decide (i < Int.ofNat m)) (.aa (((0:Int)≤i∧i < Int.ofNat m)) (.aa (0+Int.toNat i < List.length l) (cond (!decide (F.qa q0.1 q0.2.1 q0.2.2.1 q0.2.2.2.1 q0.2.2.2.2.1 q0.2.2.2.2.2=0)) (.ret (.fin (.aP [.c (.own 1 0),.c (.int .i64 (F.qa q0.1 q0.2.1 q0.2.2.1 q0.2.2.2.1 q0.2.2.2.2.1 q0.2.2.2.2.2))]) [.own 2 [] 68])) (cond (decide (0 < i)) (.aa (ae (i - 1)) (.aa (((0:Int)≤i - 1∧i - 1 < Int.ofNat m)) (.aa (0+Int.toNat (i - 1) < List.length l) (cond (decide (q0.2.1 < (List.getD l (0+Int.toNat (i - 1)) (cod 2).d).2.1)) (.ret (.fin (.aP [.c (.own 1 0),.c (.int .i64 12)]) [.own 2 [] 68])) (.aa (ae (i+1)) (.ret (.cut (cutAt Tryz.f20 10) ⟨bc 31 [(4,.c (.own 1 (on))),(1,.c (.ai 2 0 (m) false)),(6,.c (.ai 0 0 q3 my)),(0,.c (.int .i64 (Int.ofNat q3))),(0,.c (.int .i64 j)),(6,.c (.ai 2 0 (m) false)),(0,.c (.int .i64 (Int.ofNat m))),(0,.c (.int .i64 (i+1)))],[.cL 2 (f) (some ((jn),.ai 2 0 (m) false)),.own 2 o 68,.aB 2 l,q1]⟩))))))) (.aa (ae (i+1)) (.ret (.cut (cutAt Tryz.f20 10) ⟨bc 31 [(4,.c (.own 1 (on))),(1,.c (.ai 2 0 (m) false)),(6,.c (.ai 0 0 q3 my)),(0,.c (.int .i64 (Int.ofNat q3))),(0,.c (.int .i64 j)),(6,.c (.ai 2 0 (m) false)),(0,.c (.int .i64 (Int.ofNat m))),(0,.c (.int .i64 (i+1)))],[.cL 2 (f) (some ((jn),.ai 2 0 (m) false)),.own 2 o 68,.aB 2 l,q1]⟩))))))) (.aa (List.length q2=m) (.aa (on+List.length q2≤1000000) (.aa (ae (j+1)) (.ret (.cut (cutAt Tryz.f20 5) ⟨bc 40 [(4,.c (.own 1 (on+List.length q2))),(8,.c (.ai 0 0 q3 my)),(0,.c (.int .i64 (Int.ofNat q3))),(0,.c (.int .i64 (j+1)))],[.cL 2 (f) (some ((jn),.ai 2 0 (m) false)),.own 2 (o++q2) 68,.aB 2 l]⟩)))))):=by kernel_rfl
theorem ais (f:List (List F.Sp)) (my:Bool) (b0:aC) (hb:b0.n=1) (R:SV) (N:Heap cod) (j:Int) (hj:0≤j∧j≤4) (o:List F.Sp) (on:Nat) (l:List F.Sp) (m jn:Nat) (hm:m=l.length) (ajW:m≤256) (ru:on≤1024)
 (nx:F.RB l l.length 0=0→Sym.af Tryz.prog b0 (cutAt Tryz.f20 5) (qg f my (j+1) (o++l) (on+m)) (Sym.Ends Tryz.prog Tryz.f20 1 R N)) (bad:F.RB l l.length 0≠0→.aP [.c (.own 1 0),.c (.int .i64 (F.RB l l.length 0))]=R∧[.own 2 [] 68]=N):
 ∀(q:Nat) (i:Int),0≤i→i+q=m→F.RB l l.length 0=F.RB l q i.toNat→
 Sym.af Tryz.prog b0 (cutAt Tryz.f20 10) (vo f my j o on l m jn i) (Sym.Ends Tryz.prog Tryz.f20 1 R N):=by
 intro q
 induction q with
 | zero=>
   intro i h0 hi hE;rw [F.RB] at hE;have ht:List.take m l=l:=List.take_of_length_le (by omega);refine af.go (cfg:=oT) jo mixed ec 400 hb (BN f my j o on l m jn i) ?_;simp only [T.wp,T.wp_cond,bF,decide_eq_true_eq,List.drop_zero];rw [ht,←hm]
   exact ap (by simp only [Int.ofNat_eq_natCast];omega) ⟨rfl,by omega,by unfold ae;omega,af.close 0 rfl (af.iW [0,1] 15 hb (by decide) rfl rfl rfl (nx hE))⟩
 | succ q ih=>
   intro i h0 hi hE;have i1:(i - 1).toNat=i.toNat - 1:=by omega
   have hk:(i+1).toNat=i.toNat+1:=by omega
   have i64:ae (i+1):=by unfold ae;omega
   rw [F.RB] at hE;refine af.go (cfg:=oT) jo mixed ec 400 hb (BN f my j o on l m jn i) ?_;simp only [T.wp,T.wp_cond,bF,decide_eq_true_eq,Nat.zero_add];refine aq (by simp only [Int.ofNat_eq_natCast];omega) ⟨by simp only [Int.ofNat_eq_natCast];omega,by omega,?_⟩;by_cases hv:F.RA (l.getD i.toNat F.dq)=0
   ·rw [if_neg (by rw [hv];decide)] at hE
    refine ap (by
     change ¬(!decide (F.RA (l.getD i.toNat F.dq)=0))=true;rw [hv];decide) ?_
    by_cases c1:0 < i
    ·refine aq c1 ⟨by unfold ae;omega,by simp only [Int.ofNat_eq_natCast];omega,by omega,?_⟩;by_cases c2:(l.getD i.toNat F.dq).2.1 < (l.getD (i - 1).toNat F.dq).2.1
     ·rw [if_pos ⟨by omega,by rw [←i1];exact c2⟩] at hE;refine aq c2 ?_;have:=bad (by rw [hE];decide);rw [hE] at this;exact this
     ·rw [if_neg (fun h=>c2 (by rw [i1];exact h.2))] at hE;have nx1:=ih (i+1) (by omega) (by omega) (by rw [hk];exact hE);exact ap c2 ⟨i64,af.iW [0,1,2] 24 hb (by decide) rfl rfl rfl nx1⟩
    ·rw [if_neg (fun h=>c1 (by omega))] at hE;have nx1:=ih (i+1) (by omega) (by omega) (by rw [hk];exact hE);exact ap c1 ⟨i64,af.iW [0,1,2] 24 hb (by decide) rfl rfl rfl nx1⟩
   ·rw [if_pos hv] at hE
    refine aq (by
     change (!decide (F.RA (l.getD i.toNat F.dq)=0))=true;rw [decide_eq_false hv];rfl) ?_
    have:=bad (by rw [hE];exact hv);rw [hE] at this;exact this
theorem mg5 (f:List (List F.Sp)) (my:Bool) (b0:aC) (hb:b0.n=1) (h4:f.length≤4) (R:SV) (N:Heap cod)
 (hY:F.Ih f=0→.aP [.c (.ai 1 0 (F.vF f).length false),.c (.int .i64 0)]=R∧[.own 2 (F.rB f) 68]=N) (hN:F.Ih f≠0→.aP [.c (.own 1 0),.c (.int .i64 (F.Ih f))]=R∧[.own 2 [] 68]=N):
 ∀(q:Nat) (j:Int) (o:List F.Sp) (on:Nat),0≤j→j+q=f.length→on=o.length→o++(f.drop j.toNat).flatten=f.flatten→on≤256*j.toNat→F.Ih f=F.mgF f q j.toNat→
 Sym.af Tryz.prog b0 (cutAt Tryz.f20 5) (qg f my j o on) (Sym.Ends Tryz.prog Tryz.f20 1 R N):=by
 intro q
 induction q with
 | zero=>
   intro j o on h0 hj ru ho Ng hE;rw [F.mgF] at hE;rw [List.drop_eq_nil_of_le (by omega),List.flatten_nil,List.append_nil] at ho;refine af.go (cfg:=oT) jo mixed ec 400 hb (Vl f my j o on) ?_;simp only [T.wp,T.wp_cond,bF,decide_eq_true_eq];have hl:=oC o;have:=hY hE;unfold F.vF F.rB at this;rw [←ho] at this
   exact ap (by simp only [Int.ofNat_eq_natCast];omega) ⟨by omega,⟨by omega,by omega⟩,this⟩
 | succ q ih=>
   intro j o on h0 hj ru ho Ng hE;have j2:j.toNat < f.length:=by omega
   have hk:(j+1).toNat=j.toNat+1:=by omega
   have hd:f.drop j.toNat=f.getD j.toNat []::f.drop (j.toNat+1):=by
    rw [List.drop_eq_getElem_cons j2,List.getD,List.getElem?_eq_getElem j2];rfl
   rw [hd,List.flatten_cons] at ho;rw [F.mgF] at hE;refine af.open 0 j.toNat rfl j2 rfl ?_
   have main:Sym.af Tryz.prog b0 (cutAt Tryz.f20 5) (vp f my j o on (f.getD j.toNat []) (f.getD j.toNat []).length j.toNat) (Sym.Ends Tryz.prog Tryz.f20 1 R N):=by
    generalize f.getD j.toNat []=l at*;refine af.go (cfg:=oT) jo mixed ec 400 hb (PY f my j o on l l.length j.toNat) ?_;simp only [T.wp,T.wp_cond,bF,decide_eq_true_eq,Nat.zero_add];refine aq (by simp only [Int.ofNat_eq_natCast];omega) ⟨by simp only [Int.ofNat_eq_natCast];omega,⟨trivial,j2⟩,?_⟩;by_cases c:256 < l.length
    ·have hf:F.YB l=2:=by unfold F.YB;rw [if_pos c]
     rw [hf,if_pos (by decide)] at hE;refine aq (by simp only [Int.ofNat_eq_natCast];omega) ?_;have:=hN (by rw [hE];decide);rw [hE] at this;exact this
    ·have hf:F.YB l=F.RB l l.length 0:=by unfold F.YB;rw [if_neg c]
     rw [hf] at hE;refine ap (by simp only [Int.ofNat_eq_natCast];omega) ?_;have nx:=ais f my b0 hb R N j (by omega) o on l l.length j.toNat rfl (by omega) (by omega) (fun hz=>?_) (fun hz=>?_) l.length 0 (by omega) (by omega) rfl
     ·exact nx
     ·rw [if_neg (by rw [hz];decide)] at hE;exact ih (j+1) (o++l) (on+l.length) (by omega) (by omega) (by rw [List.length_append,ru]) (by rw [hk,List.append_assoc];exact ho) (by omega) (by rw [hk];exact hE)
     ·rw [if_pos hz] at hE;have:=hN (by rw [hE];exact hz);rw [hE] at this;exact this
   exact main
theorem PW (f:List (List F.Sp)) (my:Bool) (b0:aC) (hb:b0.n=1) (R:SV) (N:Heap cod)
 (hY:F.Ih f=0→.aP [.c (.ai 1 0 (F.vF f).length false),.c (.int .i64 0)]=R∧[.own 2 (F.rB f) 68]=N) (hN:F.Ih f≠0→.aP [.c (.own 1 0),.c (.int .i64 (F.Ih f))]=R∧[.own 2 [] 68]=N):
 Sym.af Tryz.prog b0 [.code (aj Tryz.f20)] ⟨ay Tryz.f20 [.c (.ai 0 0 f.length my)],([.cL 2 f none]:Heap cod)⟩ (Sym.Ends Tryz.prog Tryz.f20 1 R N):=by
 refine af.go (cfg:=oT) jo mixed ec 400 hb (Vk f my) ?_;simp only [T.wp,T.wp_cond,bF,decide_eq_true_eq];by_cases c:4 < f.length
 ·have hE:F.Ih f=2:=by unfold F.Ih;rw [if_pos c]
  refine aq (by simp only [Int.ofNat_eq_natCast];omega) ?_;have:=hN (by rw [hE];decide);rw [hE] at this;exact this
 ·have hE:F.Ih f=F.mgF f f.length 0:=by unfold F.Ih;rw [if_neg c]
  refine ap (by simp only [Int.ofNat_eq_natCast];omega) ?_;exact af.iW [0,2] 15 hb (by decide) rfl rfl rfl (mg5 f my b0 hb (by omega) R N hY hN f.length 0 [] 0 (by omega) (by omega) rfl rfl (by omega) hE)
theorem PX (f:List (List (Int×Int×Int×Int×Int×Int))) (my:Bool) (b0:aC) (hb:b0.n=1) (h0:F.Ih f=0):Sym.af Tryz.prog b0 [.code (aj Tryz.f20)] ⟨ay Tryz.f20 [.c (.ai 0 0 f.length my)],([.cL 2 f none]:Heap cod)⟩ (Sym.Ends Tryz.prog Tryz.f20 1 (.aP [.c (.ai 1 0 (F.vF f).length false),.c (.int .i64 0)]) [.own 2 (F.rB f) 68]):=by
 exact PW f my b0 hb _ _ (fun _=>⟨rfl,rfl⟩) (fun h=>absurd h0 h)
def Eu:aH cod:=fun args H=>match args,H with
 | [.c (.ai 0 f_i f_n _)],[o0]=>(match o0.oV 2 with | some f=>.aa ((f_i=0∧f_n=List.length f)∧(F.Ih f=0)) (.ret (.aP [.c (.ai 1 0 (F.vF f).length false),.c (.int .i64 0)],[.own 2 (F.rB f) 68])) | none=>.fail)
 | _,_=>.fail
theorem GV:Sound Tryz.prog cod 20 Eu:=ax (cfg:=oT) jo mixed Tryz.func20 rfl rfl _ fun args H r news hg b0 hb=>by
 unfold Eu at hg;split at hg
 ·skip
  split at hg
  ·rename_i f gG;cases fM gG;simp only [T.ah,T.wp,Prod.mk.injEq] at hg;obtain ⟨⟨⟨rfl,rfl⟩,q1⟩,rfl,rfl⟩:=hg;exact PX _ _ b0 hb (by assumption)
  ·exact hg.elim
 ·exact hg.elim
end
end
end Go.Proofs.YtcjagpfbhnmggaaGreatDoor
