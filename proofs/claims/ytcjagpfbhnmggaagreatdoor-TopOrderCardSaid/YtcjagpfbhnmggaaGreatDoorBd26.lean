/- Parts of the proof. -/
import Derived.Ground.SlsfProg
import Derived.Shelf.SlSortCmp.WholeK
import Derived.Shelf.SlSortCmp.NoneTotal
import Derived.Ground.SlgnProg
import Derived.Shelf.SlicesQ.Reverse
import Derived.Test.YtcjagpfbhnmggaaGreatDoorChecked
import Derived.Test.YtcjagpfbhnmggaaGreatDoorBd25
import Derived.OpenShut
import Derived.ShutString
import Derived.WalkSpells
import Derived.WalkLawsBesides
import Derived.Handy
import Derived.Deep.QuietTactic
import Derived.BigQuiet
import Derived.Lib.Hide
import Derived.Lib.SmallJoins
import Derived.Deep.Slices
import Derived.Deep.Fields
import Derived.Deep.AppendLies
import Derived.ChangeSame
import Derived.Deep.RegionHeld3
import Derived.StillTailTactics
import Derived.Test.YtcjagpfbhnmggaaGreatDoorProg
namespace Go.Proofs.YtcjagpfbhnmggaaGreatDoor
end Go.Proofs.YtcjagpfbhnmggaaGreatDoor
namespace Go.Proofs
open Go.Shelf
def YtcjagpfbhnmggaaGreatDoor.DI:Go.Shelf.Ren:=⟨fun | 6=>41 | 15=>81 | 14=>80 | 28=>117 | 29=>118 | 20=>109 | 21=>110 | 22=>111 | 23=>112 | 24=>113 | 25=>114 | 26=>115 | 27=>116 | 46=>140 | 47=>141 | 48=>142 | 49=>143 | 50=>144 | 57=>157 | n=>n,fun | 22=>66 | 24=>68 | 25=>107 | 3=>3 | 39=>145 | 0=>0 | 53=>173 | 55=>175 | 4=>4 | 46=>166 | 45=>165 | 50=>170 | 5=>5 | 9=>9 | 66=>188 | 70=>192 | 76=>198 | 77=>100 | n=>n,fun | n=>n⟩
theorem YtcjagpfbhnmggaaGreatDoor.GD:Go.Proofs.SlLaysF0.n6 Tryz.prog YtcjagpfbhnmggaaGreatDoor.DI:={
 mixed:=by kernel_rfl
 f6:=⟨Tryz.f41.name,by decide,Tryz.func41.trans (congrArg some (by kernel_rfl))⟩
 f14:=⟨Tryz.f80.name,by decide,Tryz.func80.trans (congrArg some (by kernel_rfl))⟩
 f15:=Tryz.func81.trans (congrArg some (by kernel_rfl))
 f20:=⟨Tryz.f109.name,by decide,Tryz.func109.trans (congrArg some (by kernel_rfl))⟩
 f21:=⟨Tryz.f110.name,by decide,Tryz.func110.trans (congrArg some (by kernel_rfl))⟩
 f22:=⟨Tryz.f111.name,by decide,Tryz.func111.trans (congrArg some (by kernel_rfl))⟩
 f23:=⟨Tryz.f112.name,by decide,Tryz.func112.trans (congrArg some (by kernel_rfl))⟩
 f24:=⟨Tryz.f113.name,by decide,Tryz.func113.trans (congrArg some (by kernel_rfl))⟩
 f25:=⟨Tryz.f114.name,by decide,Tryz.func114.trans (congrArg some (by kernel_rfl))⟩
 f26:=⟨Tryz.f115.name,by decide,Tryz.func115.trans (congrArg some (by kernel_rfl))⟩
 f27:=⟨Tryz.f116.name,by decide,Tryz.func116.trans (congrArg some (by kernel_rfl))⟩
 f28:=Tryz.func117.trans (congrArg some (by kernel_rfl))
 f29:=Tryz.func118.trans (congrArg some (by kernel_rfl))
 f46:=⟨Tryz.f140.name,by decide,Tryz.func140.trans (congrArg some (by kernel_rfl))⟩
 f47:=Tryz.func141.trans (congrArg some (by kernel_rfl))
 f48:=Tryz.func142.trans (congrArg some (by kernel_rfl))
 f49:=⟨Tryz.f143.name,by decide,Tryz.func143.trans (congrArg some (by kernel_rfl))⟩
 f50:=⟨Tryz.f144.name,by decide,Tryz.func144.trans (congrArg some (by kernel_rfl))⟩
 f57:=⟨Tryz.f157.name,by decide,Tryz.func157.trans (congrArg some (by kernel_rfl))⟩
 t0:=Tryz.underlying0
 a0:=Tryz.isAgg0
 z0:=Tryz.sizeOf0
 v0:=Tryz.zeroValue0
 t3:=Tryz.underlying3
 a3:=Tryz.isAgg3
 z3:=Tryz.sizeOf3
 v3:=Tryz.zeroValue3
 t4:=Tryz.underlying4
 a4:=Tryz.isAgg4
 z4:=Tryz.sizeOf4
 v4:=Tryz.zeroValue4
 t5:=Tryz.underlying5
 a5:=Tryz.isAgg5
 z5:=Tryz.sizeOf5
 v5:=Tryz.zeroValue5
 t9:=Tryz.underlying9
 a9:=Tryz.isAgg9
 z9:=Tryz.sizeOf9
 v9:=Tryz.zeroValue9
 t22:=Tryz.underlying66
 a22:=Tryz.isAgg66
 z22:=Tryz.sizeOf66
 v22:=Tryz.zeroValue66
 t25:=Tryz.underlying107
 a25:=Tryz.isAgg107
 z25:=Tryz.sizeOf107
 v25:=Tryz.zeroValue107
 t39:=Tryz.underlying145
 a39:=Tryz.isAgg145
 z39:=Tryz.sizeOf145
 v39:=Tryz.zeroValue145
 t45:=Tryz.underlying165
 a45:=Tryz.isAgg165
 z45:=Tryz.sizeOf165
 v45:=Tryz.zeroValue165
 t46:=Tryz.underlying166
 a46:=Tryz.isAgg166
 z46:=Tryz.sizeOf166
 v46:=Tryz.zeroValue166
 t50:=Tryz.underlying170
 a50:=Tryz.isAgg170
 z50:=Tryz.sizeOf170
 v50:=Tryz.zeroValue170
 t53:=Tryz.underlying173
 a53:=Tryz.isAgg173
 z53:=Tryz.sizeOf173
 v53:=Tryz.zeroValue173
 t55:=Tryz.underlying175
 a55:=Tryz.isAgg175
 z55:=Tryz.sizeOf175
 v55:=Tryz.zeroValue175
 t66:=Tryz.underlying188
 a66:=Tryz.isAgg188
 z66:=Tryz.sizeOf188
 v66:=Tryz.zeroValue188
 t70:=Tryz.underlying192
 a70:=Tryz.isAgg192
 z70:=Tryz.sizeOf192
 v70:=Tryz.zeroValue192
 t76:=Tryz.underlying198
 a76:=Tryz.isAgg198
 z76:=Tryz.sizeOf198
 v76:=Tryz.zeroValue198
 t77:=Tryz.underlying100
 a77:=Tryz.isAgg100
 z77:=Tryz.sizeOf100
 v77:=Tryz.zeroValue100}
def YtcjagpfbhnmggaaGreatDoor.DJ:Go.Shelf.Ren:=⟨fun | 6=>48 | 15=>81 | 14=>88 | 28=>117 | 29=>118 | 20=>122 | 21=>123 | 22=>124 | 23=>125 | 24=>126 | 25=>127 | 26=>128 | 27=>129 | 46=>145 | 47=>141 | 48=>142 | 49=>146 | 50=>147 | 57=>158 | n=>n,fun | 22=>35 | 24=>42 | 25=>115 | 3=>3 | 39=>145 | 0=>0 | 53=>173 | 55=>175 | 4=>4 | 46=>166 | 45=>165 | 50=>170 | 5=>5 | 9=>9 | 66=>188 | 70=>192 | 76=>198 | 77=>100 | n=>n,fun | n=>n⟩
theorem YtcjagpfbhnmggaaGreatDoor.GG:Go.Proofs.SlLaysF0.n6 Tryz.prog YtcjagpfbhnmggaaGreatDoor.DJ:={
 mixed:=by kernel_rfl
 f6:=⟨Tryz.f48.name,by decide,Tryz.func48.trans (congrArg some (by kernel_rfl))⟩
 f14:=⟨Tryz.f88.name,by decide,Tryz.func88.trans (congrArg some (by kernel_rfl))⟩
 f15:=Tryz.func81.trans (congrArg some (by kernel_rfl))
 f20:=⟨Tryz.f122.name,by decide,Tryz.func122.trans (congrArg some (by kernel_rfl))⟩
 f21:=⟨Tryz.f123.name,by decide,Tryz.func123.trans (congrArg some (by kernel_rfl))⟩
 f22:=⟨Tryz.f124.name,by decide,Tryz.func124.trans (congrArg some (by kernel_rfl))⟩
 f23:=⟨Tryz.f125.name,by decide,Tryz.func125.trans (congrArg some (by kernel_rfl))⟩
 f24:=⟨Tryz.f126.name,by decide,Tryz.func126.trans (congrArg some (by kernel_rfl))⟩
 f25:=⟨Tryz.f127.name,by decide,Tryz.func127.trans (congrArg some (by kernel_rfl))⟩
 f26:=⟨Tryz.f128.name,by decide,Tryz.func128.trans (congrArg some (by kernel_rfl))⟩
 f27:=⟨Tryz.f129.name,by decide,Tryz.func129.trans (congrArg some (by kernel_rfl))⟩
 f28:=Tryz.func117.trans (congrArg some (by kernel_rfl))
 f29:=Tryz.func118.trans (congrArg some (by kernel_rfl))
 f46:=⟨Tryz.f145.name,by decide,Tryz.func145.trans (congrArg some (by kernel_rfl))⟩
 f47:=Tryz.func141.trans (congrArg some (by kernel_rfl))
 f48:=Tryz.func142.trans (congrArg some (by kernel_rfl))
 f49:=⟨Tryz.f146.name,by decide,Tryz.func146.trans (congrArg some (by kernel_rfl))⟩
 f50:=⟨Tryz.f147.name,by decide,Tryz.func147.trans (congrArg some (by kernel_rfl))⟩
 f57:=⟨Tryz.f158.name,by decide,Tryz.func158.trans (congrArg some (by kernel_rfl))⟩
 t0:=Tryz.underlying0
 a0:=Tryz.isAgg0
 z0:=Tryz.sizeOf0
 v0:=Tryz.zeroValue0
 t3:=Tryz.underlying3
 a3:=Tryz.isAgg3
 z3:=Tryz.sizeOf3
 v3:=Tryz.zeroValue3
 t4:=Tryz.underlying4
 a4:=Tryz.isAgg4
 z4:=Tryz.sizeOf4
 v4:=Tryz.zeroValue4
 t5:=Tryz.underlying5
 a5:=Tryz.isAgg5
 z5:=Tryz.sizeOf5
 v5:=Tryz.zeroValue5
 t9:=Tryz.underlying9
 a9:=Tryz.isAgg9
 z9:=Tryz.sizeOf9
 v9:=Tryz.zeroValue9
 t22:=Tryz.underlying35
 a22:=Tryz.isAgg35
 z22:=Tryz.sizeOf35
 v22:=Tryz.zeroValue35
 t25:=Tryz.underlying115
 a25:=Tryz.isAgg115
 z25:=Tryz.sizeOf115
 v25:=Tryz.zeroValue115
 t39:=Tryz.underlying145
 a39:=Tryz.isAgg145
 z39:=Tryz.sizeOf145
 v39:=Tryz.zeroValue145
 t45:=Tryz.underlying165
 a45:=Tryz.isAgg165
 z45:=Tryz.sizeOf165
 v45:=Tryz.zeroValue165
 t46:=Tryz.underlying166
 a46:=Tryz.isAgg166
 z46:=Tryz.sizeOf166
 v46:=Tryz.zeroValue166
 t50:=Tryz.underlying170
 a50:=Tryz.isAgg170
 z50:=Tryz.sizeOf170
 v50:=Tryz.zeroValue170
 t53:=Tryz.underlying173
 a53:=Tryz.isAgg173
 z53:=Tryz.sizeOf173
 v53:=Tryz.zeroValue173
 t55:=Tryz.underlying175
 a55:=Tryz.isAgg175
 z55:=Tryz.sizeOf175
 v55:=Tryz.zeroValue175
 t66:=Tryz.underlying188
 a66:=Tryz.isAgg188
 z66:=Tryz.sizeOf188
 v66:=Tryz.zeroValue188
 t70:=Tryz.underlying192
 a70:=Tryz.isAgg192
 z70:=Tryz.sizeOf192
 v70:=Tryz.zeroValue192
 t76:=Tryz.underlying198
 a76:=Tryz.isAgg198
 z76:=Tryz.sizeOf198
 v76:=Tryz.zeroValue198
 t77:=Tryz.underlying100
 a77:=Tryz.isAgg100
 z77:=Tryz.sizeOf100
 v77:=Tryz.zeroValue100}
def YtcjagpfbhnmggaaGreatDoor.GF:Go.Shelf.Ren:=⟨fun | 35=>12 | n=>n,fun | 22=>35 | 23=>42 | 3=>3 | 4=>4 | 0=>0 | n=>n,fun | n=>n⟩
theorem YtcjagpfbhnmggaaGreatDoor.Ny:Go.Proofs.SlLaysE0.n35 Tryz.prog YtcjagpfbhnmggaaGreatDoor.GF:={
 mixed:=by kernel_rfl
 f35:=⟨Tryz.f12.name,by decide,Tryz.func12.trans (congrArg some (by kernel_rfl))⟩
 t0:=Tryz.underlying0
 a0:=Tryz.isAgg0
 z0:=Tryz.sizeOf0
 v0:=Tryz.zeroValue0
 t3:=Tryz.underlying3
 a3:=Tryz.isAgg3
 z3:=Tryz.sizeOf3
 v3:=Tryz.zeroValue3
 t4:=Tryz.underlying4
 a4:=Tryz.isAgg4
 z4:=Tryz.sizeOf4
 v4:=Tryz.zeroValue4
 t22:=Tryz.underlying35
 a22:=Tryz.isAgg35
 z22:=Tryz.sizeOf35
 v22:=Tryz.zeroValue35}
end Go.Proofs
namespace Go.Proofs.YtcjagpfbhnmggaaGreatDoor
section
open Sym Go.RowKit Go.Sort
set_option maxHeartbeats 4000000
def F.GN (a b:F.Sp):Prop:=a.1 < b.1∨(a.1=b.1∧(a.2.2.2.2.2 < b.2.2.2.2.2∨(a.2.2.2.2.2=b.2.2.2.2.2∧(a.2.1 < b.2.1∨(a.2.1=b.2.1∧(a.2.2.1 < b.2.2.1∨(a.2.2.1=b.2.2.1∧(a.2.2.2.1 < b.2.2.2.1∨(a.2.2.2.1=b.2.2.2.1∧a.2.2.2.2.1 < b.2.2.2.2.1)))))))))
theorem VH (x:Int) (l:List Int):F.Ii (x::l) < 0↔x < 0∨(x=0∧F.Ii l < 0):=by
 rw [F.Ii];split<;>omega
theorem MZ (a b:Int):F.eA a b < 0↔a < b:=by
 unfold F.eA;split
 ·omega
 ·split<;>omega
theorem AX (a b:Int):F.eA a b=0↔a=b:=by
 unfold F.eA;split
 ·omega
 ·split<;>omega
theorem lO (a b:F.Sp):F.tl a b < 0↔F.GN a b:=by
 unfold F.tl F.GN;simp only [VH,MZ,AX];have:¬F.Ii [] < 0:=by decide
 simp only [this,and_false,or_false]
theorem hZ {a b c:F.Sp} (h1:F.GN a b) (h2:F.GN b c):F.GN a c:=by
 unfold F.GN at*;omega
theorem wb (a b:F.Sp) (h1:¬F.GN a b) (h2:¬F.GN b a):a=b:=by
 obtain ⟨a1,a2,a3,a4,a5,a6⟩:=a;obtain ⟨b1,b2,b3,b4,b5,b6⟩:=b;unfold F.GN at*;simp only [Prod.mk.injEq];simp only at h1 h2;omega
theorem wa (a:F.Sp):¬F.GN a a:=by
 unfold F.GN;omega
theorem aiD:SWO (ltOf F.tl) where
 irrefl:=fun x=>by simp only [ltOf,decide_eq_false_iff_not,lO];exact wa x
 trans:=fun x y z h1 h2=>by
  simp only [ltOf,decide_eq_true_eq,lO] at*;exact hZ h1 h2
 ntrans:=fun x y z h1 h2=>by
  simp only [ltOf,decide_eq_false_iff_not,lO] at*;intro h;by_cases e:F.GN y x
  ·exact h2 (by
    by_cases e2:F.GN z y
    ·exact absurd (hZ e2 (hZ e h)) (wa _)
    ·exact absurd (hZ e h) h2)
  ·rw [wb x y h1 e] at h;exact h2 h
noncomputable def e7 (x:F.Sp):List Value:=((cod 2).enc x).map Cell.val
theorem nk (x:F.Sp):(e7 x).length=6:=rfl
instance:Inhabited F.Sp:=⟨F.dq⟩
theorem gW (l:List F.Sp):(flatK e7 6 l.toArray).toList=aN (cod 2) l:=by
 have hl:(aN (cod 2) l).length=l.length*6:=bB _ _;apply List.ext_getElem?;intro j;by_cases hj:j < l.length*6
 ·have h6:j / 6 < l.length:=by omega
  have e:(flatK e7 6 l.toArray)[j]? =some ((e7 l.toArray[j / 6]!)[j % 6]!):=by
   have h1:j < (flatK e7 6 l.toArray).size:=by simpa using hj
   have h2:=get_flatK e7 6 l.toArray j (by simpa using hj);rw [getElem!_pos _ j h1] at h2;rw [Array.getElem?_eq_getElem h1,h2]
  rw [Array.getElem?_toList,e];have hm0:∀x:F.Sp,j % 6 < (e7 x).length:=fun x=>by rw [nk];exact Nat.mod_lt _ (by decide)
  have hg:l.getD (j / 6) F.dq=l[j / 6]:=by rw [List.getD,List.getElem?_eq_getElem h6];rfl
  have hv:(aN (cod 2) l)[j]? =(e7 l[j / 6])[j % 6]? :=by
   have hd:(aN (cod 2) l).drop (j / 6*6)=e7 (l.getD (j / 6) F.dq)++(aN (cod 2) l).drop (j / 6*6+6):=oL (cod 2) l (j / 6) h6;have e1:j=j / 6*6+j % 6:=by omega
   have e2:(aN (cod 2) l)[j]? =((aN (cod 2) l).drop (j / 6*6))[j % 6]? :=by
    rw [List.getElem?_drop,←e1]
   rw [e2,hd,List.getElem?_append_left (hm0 _),hg]
  rw [hv];have hm:j % 6 < (e7 l[j / 6]).length:=by rw [nk];exact Nat.mod_lt _ (by decide)
  rw [List.getElem?_eq_getElem hm];congr 1;have ha:l.toArray[j / 6]! =l[j / 6]:=by simp [h6]
  rw [ha];exact getElem!_pos (e7 l[j / 6]) (j % 6) hm
 ·rw [List.getElem?_eq_none (by rw [Array.length_toList,size_flatK];simp;omega),List.getElem?_eq_none (by rw [hl];omega)]
def F.Kl (x:F.Sp):List F.Sp→List F.Sp
 | []=>[x]
 | y::r=>if F.tl y x < 0 then y::F.Kl x r else x::y::r
def F.iE:List F.Sp→List F.Sp
 | []=>[]
 | x::r=>F.Kl x (F.iE r)
theorem tK (x:F.Sp):∀l:List F.Sp,(F.Kl x l).Perm (x::l)
 | []=>.refl _
 | y::r=>by
   unfold F.Kl;split
   ·exact ((tK x r).cons y).trans (.swap x y r)
   ·exact .refl _
theorem fR:∀l:List F.Sp,(F.iE l).Perm l
 | []=>.refl _
 | x::r=>(tK x (F.iE r)).trans ((fR r).cons x)
theorem uh (l:List F.Sp):(F.iE l).length=l.length:=(fR l).length_eq
def U7 (a b:F.Sp):Prop:=¬F.GN b a
theorem BH {a b c:F.Sp} (h1:U7 a b) (h2:U7 b c):U7 a c:=by
 intro h;by_cases e:F.GN b a
 ·exact h1 e
 ·by_cases e2:F.GN a b
  ·exact h2 (hZ h e2)
  ·rw [wb a b e2 e] at h;exact h2 h
theorem uU (x:F.Sp):∀l:List F.Sp,l.Pairwise U7→(F.Kl x l).Pairwise U7
 | [],_=>by simp [F.Kl]
 | y::r,h=>by
   rw [List.pairwise_cons] at h;unfold F.Kl;split
   ·rename_i Py;rw [lO] at Py;rw [List.pairwise_cons];refine ⟨fun z hz=>?_,uU x r h.2⟩;have:=(tK x r).mem_iff.1 hz;rcases List.mem_cons.1 this with rfl | hz
    ·exact fun h=>wa _ (hZ Py h)
    ·exact h.1 z hz
   ·rename_i Py;rw [lO] at Py;rw [List.pairwise_cons,List.pairwise_cons];refine ⟨fun z hz=>?_,h⟩;rcases List.mem_cons.1 hz with rfl | hz
    ·exact Py
    ·exact BH Py (h.1 z hz)
theorem iU:∀l:List F.Sp,(F.iE l).Pairwise U7
 | []=>.nil
 | x::r=>uU x _ (iU r)
theorem vd {l m:List F.Sp} (hl:l.Pairwise U7) (hm:m.Pairwise U7) (h:l.Perm m):l=m:=
 List.Perm.eq_of_pairwise (le:=U7) (fun a b _ _ h1 h2=>wb a b h2 h1) hl hm h
theorem WU (l:List F.Sp):(l.mergeSort fun x y=>!(ltOf F.tl) y x)=F.iE l:=by
 refine vd ?_ (iU l) ((List.mergeSort_perm l _).trans (fR l).symm)
 have hb:∀a b:F.Sp,(!(ltOf F.tl) b a)=true↔U7 a b:=fun a b=>by
  unfold ltOf U7;rw [Bool.not_eq_true',decide_eq_false_iff_not,lO]
 have:=List.pairwise_mergeSort (le:=fun x y:F.Sp=>!(ltOf F.tl) y x) (fun a b c h1 h2=>(hb a c).2 (BH ((hb a b).1 h1) ((hb b c).1 h2))) (fun a b=>by
  rw [Bool.or_eq_true,hb,hb];by_cases e:F.GN b a
  ·exact .inr fun h=>wa _ (hZ e h)
  ·exact .inl e) l
 exact this.imp fun h=>(hb _ _).1 h
theorem Nd {w w':World} (h:Blw w w'):∃q os',w'=grow (w.drewN q) os':=by
 refine ⟨w'.drawn - w.drawn,w'.heap.extract w.heap.size w'.heap.size,?_⟩;obtain ⟨⟨h1,h2,h3,h4,h5⟩,h6⟩:=h
 have hh:w'.heap=w.heap++w'.heap.extract w.heap.size w'.heap.size:=by
  apply Array.ext_getElem?;intro k;by_cases hk:k < w.heap.size
  ·rw [Array.getElem?_append_left hk,h5 k hk]
  ·rw [Array.getElem?_append_right (by omega),Array.getElem?_extract];split
   ·congr 1;omega
   ·rw [Array.getElem?_eq_none (by omega)]
 have h6:w.drawn≤w'.drawn:=h6;have hd:w'.drawn=w.drawn+(w'.drawn - w.drawn):=by omega
 cases w';cases w;simp only [grow,World.drewN] at*;subst h1 h2 h3;rw [←hh,←hd]
theorem OQ (x y:F.Sp) (W:World) (hT:pN W (gT W)):Calls Tryz.prog 49 (#[.agg (e7 x).toArray,.agg (e7 y).toArray]++#[]) W fun e w'=>e= .returned (.int .i64 (F.tl x y))∧∃q os',w'=grow (W.drewN q) os':=by
 have G:Sym.Good (cod:=cod) (fun _=>⟨0,0,0,.tuple #[],[]⟩) [] W (gT W):=⟨fun h o ho=>by simp at ho,fun h h' o o' b _ ho=>by simp at ho,hT⟩;have sc:∀z:F.Sp,aS (fun _=>⟨0,0,0,.tuple #[],[]⟩) 0 (.agg ((cod 2).enc z)) (.agg (e7 z).toArray):=fun z=>⟨_,rfl,gd rfl⟩;refine (pV.calls [.agg ((cod 2).enc x),.agg ((cod 2).enc y)] [] _ W [.agg (e7 x).toArray,.agg (e7 y).toArray] (.c (.int .i64 (F.tl x y))) [] rfl G (.cons (sc x) (.cons (sc y) .nil)) ?_).mono ?_
 ·exact rfl
 ·rintro e w' ⟨v,aK,rfl,_,hv,_,hb⟩;have:v= .int .i64 (F.tl x y):=hv;rw [this];exact ⟨rfl,Nd hb⟩
theorem Mh (b cap:Nat) (l:List F.Sp) (w:World) (M:Nat→Prop) (hT:pN w M) (hM:M b) (hm:l.length≤1000000) (hr:iM w b (aN (cod 2) l)):
 Calls Tryz.prog 48 (Value.slice (.some ⟨b,0,Option.none⟩) l.length cap::kr [49]).toArray w fun e w'=>e= .returned (.tuple #[])∧∃(n:Nat) (os:Array Obj) (D:Array Value),D.toList.map id=aN (cod 2) (F.iE l)∧w'=grow (putRow id (Sort.ahead w n) b 0 D) os:=by
 have hH:HoldsK e7 6 w b 0 l.toArray:=by
  refine iM.holds (e':=id) (D:=flatK e7 6 l.toArray) ?_;rw [List.map_id,gW];exact hr
 have Ug:=AnyQ.slices_SortFunc_total GG 6 Tryz.isAgg42 Tryz.sizeOf42 e7 nk (fun x v hv=>by
  change v∈[Value.int .i64 x.1,.int .i64 x.2.1,.int .i64 x.2.2.1,.int .i64 x.2.2.2.1,.int .i64 x.2.2.2.2.1,.int .i64 x.2.2.2.2.2] at hv;simp only [List.mem_cons,List.not_mem_nil,or_false] at hv
  rcases hv with rfl | rfl | rfl | rfl | rfl | rfl<;>rfl) F.tl aiD 49 #[] b 0 cap l.toArray w pV.enters (fun m os dk _ x y=>OQ x y _ (Nv hT (oq (w:=w) (g:=b) (n:=m) (os:=os) id (flatK e7 6 dk) hM))) hH hr.lt (by simp;omega) (fun x y h1 h2=>by
  simp only [ltOf,decide_eq_false_iff_not,lO] at h1 h2;exact wb x y h1 h2)
 refine Ug.mono ?_;rintro e w' ⟨rfl,n,os,rfl⟩;refine ⟨rfl,n,os,flatK e7 6 (F.iE l).toArray,by rw [List.map_id,gW],?_⟩;rw [show l.toArray.toList=l from rfl,WU];rfl
theorem zm (p:Option Addr) (cap:Nat) (w:World):Calls Tryz.prog 48 (Value.slice p 0 cap::kr [49]).toArray w fun e w'=>e= .returned (.tuple #[])∧w'=w:=
 AnyF.slices_SortFunc_none GG p cap _ w
theorem HB:I8 Tryz.prog cod 48 2 [49] F.iE Value id where
 enters:=tx Tryz.func48 rfl rfl
 len:=uh
 none:=zm
 some:=fun b cap l w M _ hm hr hT hM=>Mh b cap l w M hT hM hm hr
noncomputable def NY:aH cod:=qf 2 [49] F.iE
theorem vc:dz Tryz.prog cod 48 true NY:=u6 HB
end
section
open Go.ChangeShapes Go.WideShapes Go.ChangeAt Go.RowKit
set_option maxHeartbeats 4000000
theorem G2 (A:Option Addr) (n c:Nat) (w:World):(binOp .eql 35 (.slice A n c) (.slice none 0 0)).run Tryz.prog w= .ok (.bool A.isNone) w:=by
 have ht:Tryz.prog.underlying 35=some (.slice 42):=by kernel_rfl
 have h1:∀w d,(Op.equalIn (d+1) 35 (.slice A n c) (.slice none 0 0)).run Tryz.prog w= .ok A.isNone w:=fun w d=>by cases A<;>simp [Op.equalIn,run_underlying ht]
 have h2:∀w,(Op.equal 35 (.slice A n c) (.slice none 0 0)).run Tryz.prog w= .ok A.isNone w:=fun w=>h1 w 9999;simp [binOp,h2]
set_option maxRecDepth 100000 in
theorem FH (c:Nat) (w:World):Calls Tryz.prog 10 #[.slice none 0 c] w fun e w'=>e= .returned (.slice none 0 0)∧w'=w:=by
 go_enter Tryz.func10,Tryz.ntmps10
 go_wp2
 rw [G2]
 go_wp2
 go_ret
 exact ⟨rfl,rfl⟩
set_option maxRecDepth 100000 in
theorem FI (a:Addr) (c:Nat) (w:World):Calls Tryz.prog 10 #[.slice (some a) 0 c] w fun e w'=>∃A,e= .returned (.slice A 0 0)∧Below w.heap.size w w'∧w.drawn≤w'.drawn:=by
 go_enter Tryz.func10,Tryz.ntmps10
 go_wp2
 rw [G2]
 go_wp2
 go_ret
 exact ⟨_,rfl,Below.alloc (Below.refl _ _) (Nat.le_refl _) _,Nat.le_refl _⟩
end
namespace Sym
open Go.RowKit
section
variable {cod:Nat→aO} {P:Program}
inductive RI (N:Nat):SV→Heap cod→SV→Heap cod→Prop where
 | aP (u:Nat) (l:List (cod u).α) (e:TypeId) (es:List Cell) (h:es.all Cell.scalar=true) (hl:0 < l.length):
   RI N (.aP (.c (.ai N 0 l.length true)::es.map .c)) [.arr u l e] (.aP (.c (.own N l.length)::es.map .c)) [.own u l e]
 | one (u:Nat) (l:List (cod u).α) (e:TypeId) (hl:0 < l.length):
   RI N (.c (.ai N 0 l.length true)) [.arr u l e] (.c (.own N l.length)) [.own u l e]
end
end Sym
section
open Sym Go.RowKit
noncomputable section
set_option maxRecDepth 100000
set_option maxHeartbeats 4000000
def xz:bA:=[]
theorem Th (l:List (Int×Int×Int×Int×Int×Int)) (aA:Bool) (cF cA:Nat):aI sC xz Tryz.f10.results.toList 1 400 [.code (aj Tryz.f10)] ⟨ay Tryz.f10 [.c (.ai 0 cF cA aA)],([.aB 2 l]:Heap cod)⟩=
 (let q0:=List.take cA (List.drop cF l);
 .aa ((0:Nat) < cA) (.aa (List.length q0=cA) (.aa (0=0) (.aa (((0:Nat) < List.length q0∧0+List.length q0≤1000000)) (.ret (.fin (.c (.own 1 (0+List.length q0))) [.own 2 ([]++q0) 42])))))):=by kernel_rfl
theorem OK (l:List (Int×Int×Int×Int×Int×Int)) (aA:Bool) (cF cA:Nat) (b0:aC) (hb:b0.n=1) (h0:cF+cA≤List.length l) (h1:0 < cA) (h2:cA≤1000000):Sym.af Tryz.prog b0 [.code (aj Tryz.f10)] ⟨ay Tryz.f10 [.c (.ai 0 cF cA aA)],([.aB 2 l]:Heap cod)⟩ (Sym.Ends Tryz.prog Tryz.f10 1 (.c (.own 1 cA)) [.own 2 ((l.drop cF).take cA) 42]):=by
 refine af.go (cfg:=sC) jc mixed xz 400 hb (Th l aA cF cA) ?_;have e:(List.take cA (List.drop cF l)).length=cA:=by rw [List.length_take,List.length_drop];omega
 simp only [T.wp,bF,true_and,Nat.zero_add,e];refine ⟨h1,⟨h1,h2⟩,?_⟩;simp [];rfl
def wj:aH cod:=fun args H=>match args,H with
 | [.c (.ai 0 cF cA _)],[o0]=>(match o0.cV 2 with | some l=>.aa ((cF+cA≤List.length l)∧(0 < cA)∧(cA≤1000000)) (.ret (.c (.own 1 cA),[.own 2 ((l.drop cF).take cA) 42])) | none=>.fail)
 | _,_=>.fail
theorem mU:Sound Tryz.prog cod 10 wj:=ax (cfg:=sC) jc mixed Tryz.func10 rfl rfl _ fun args H r news hg b0 hb=>by
 unfold wj at hg;split at hg
 ·skip
  split at hg
  ·rename_i l gG;cases aR gG;simp only [T.ah,T.wp,Prod.mk.injEq] at hg;obtain ⟨⟨q0,q1,q2⟩,rfl,rfl⟩:=hg;exact OK _ _ _ _ b0 hb (by assumption) (by assumption) (by assumption)
  ·exact hg.elim
 ·exact hg.elim
def MM:aQ cod:=(10,.p wj)::Cy
theorem IG:cv Tryz.prog cod MM:=.cons mU jc
def yU:aH cod:=fun args _=>match args with
 | [.c (.ai h _ n _)]=>.aa (n=0) (.ret (.c (.ai h 0 0 true),[]))
 | _=>.fail
def Wr (s1 s2:aH cod):aH cod:=fun args H=>match args with
 | [.c (.ai _ _ n _)]=>.ite (decide (n=0)) (s1 args H) (s2 args H)
 | _=>.fail
def Hk:aH cod:=Wr yU wj
theorem Sound.aio {g:FuncId} {s1 s2:aH cod} (h1:Sound Tryz.prog cod g s1) (h2:Sound Tryz.prog cod g s2):Sound Tryz.prog cod g (Wr s1 s2):=by
 refine ⟨h1.enters,fun args H env w vs r news gF G ha hg=>?_⟩;unfold Wr at hg;split at hg
 ·rename_i x i n t;by_cases c:n=0
  ·exact h1.calls _ H env w vs r news gF G ha (hg.1 (by simp [c]))
  ·exact h2.calls _ H env w vs r news gF G ha (hg.2 (by simp [c]))
 ·exact hg.elim
theorem Da:Sound Tryz.prog cod 10 yU:=by
 refine ⟨mU.enters,fun args H env w vs r news gF G ha hg=>?_⟩;unfold yU at hg;split at hg
 ·rename_i x i n t;obtain ⟨hn,hr⟩:=hg;subst hn;cases hr
  cases ha with
  | @cons _ v0 _ vs hx iP=>
    cases iP;obtain ⟨hN,A,c,rfl,h1,h2,h3,h4⟩:=hx
    cases A with
    | none=>
      refine (FH c w).mono ?_;rintro e w' ⟨rfl,rfl⟩
      exact ⟨_,env,rfl,eH.refl _ _,⟨hN,none,0,rfl,Nat.le_refl _,by decide,fun _=>rfl,fun h=>absurd h (by decide)⟩,by simpa using G,⟨Below.refl _ _,Nat.le_refl _⟩⟩
    | some a=>
      refine (FI a c w).mono ?_;rintro e w' ⟨A,rfl,hb,hd⟩;exact ⟨_,env,rfl,eH.refl _ _,⟨hN,A,0,rfl,Nat.le_refl _,by decide,fun _=>rfl,fun h=>absurd h (by decide)⟩,by simpa using G.below hb (Nat.le_refl _),⟨hb,hd⟩⟩
 ·exact hg.elim
theorem Db:Sound Tryz.prog cod 10 Hk:=Sound.aio Da mU
def wI:aQ cod:=(10,.p Hk)::MM
def wx:aT cod:=c9 wI
theorem mE:cv Tryz.prog cod wI:=.cons Db IG
namespace F
def zX (band:Int) (b a:Sp):Bool:=decide (a.1=b.1)&&(decide (a.2.2.2.2.1=b.2.2.2.2.1)&&(!decide (a.2.2.2.2.1= -1)&&((de (a.2.2.2.2.2+b.2.2.2.2.2) 0 8000000&&decide (iw a.2.1 a.2.2.1 b.2.1 b.2.2.1≤(a.2.2.2.2.2+b.2.2.2.2.2)*(a.2.2.2.2.2+b.2.2.2.2.2)))&&decide (max (a.2.2.2.1 - b.2.2.2.1) (b.2.2.2.1 - a.2.2.2.1)≤band))))
def Mj (x:Sp):Prop:=spot x.1 x.2.1 x.2.2.1 x.2.2.2.1 x.2.2.2.2.1 x.2.2.2.2.2=0
def AA (x:Sp) (band:Int):Prop:=Mj x∧0≤band∧band≤60000
def oN (l:List Sp):Prop:=∀x∈l,Mj x
def DF (p:Sp→Bool) (l:List Sp):Nat→Nat→Int→Int
 | 0,_,_=>-1
 | m+1,j,i=>if p (l.getD j dq) then i else DF p l m (j+1) (i+1)
def vw (p:Sp→Bool) (l:List Sp):Nat→Nat→Bool
 | 0,_=>false
 | m+1,j=>p (l.getD j dq)||vw p l m (j+1)
end F
theorem F.abl {x:F.Sp} (h:F.Mj x):(0≤x.1∧x.1≤200000)∧(-1000000≤x.2.1∧x.2.1≤1000000)∧(-1000000≤x.2.2.1∧x.2.2.1≤1000000)∧(0≤x.2.2.2.1∧x.2.2.2.1≤60000)∧(-1≤x.2.2.2.2.1∧x.2.2.2.2.1≤4095)∧(0≤x.2.2.2.2.2∧x.2.2.2.2.2≤1000000):=by
 unfold F.Mj F.spot F.cP F.de at h;split at h
 ·rename_i q;simp only [Bool.and_eq_true,decide_eq_true_eq] at q;omega
 ·cases h
theorem Gv (p:F.Sp→Bool) (l:List F.Sp):∀(m j:Nat) (i:Int),0≤i→decide (0≤F.DF p l m j i)=F.vw p l m j
 | 0,j,i,_=>by simp [F.DF,F.vw]
 | m+1,j,i,h0=>by
   rw [F.DF,F.vw];cases hp:p (l.getD j F.dq)
   ·simp only [Bool.false_eq_true,if_false,Bool.false_or];exact Gv p l m (j+1) (i+1) (by omega)
   ·simp [h0]
def Bj:bA:=[]
theorem Zp (a:Int) (b:Int) (band:Int):aI wx Bj Tryz.f90.results.toList 0 400 [.code (aj Tryz.f90)] ⟨ay Tryz.f90 [.c (.int .i64 a),.c (.int .i64 b),.c (.int .i64 band)],([]:Heap cod)⟩=
.aa (ae (a - b)) (
.aa (ae (b - a)) (
.ret (.fin (.c (.bool (decide (max (a - b) (b - a)≤band)))) []))):=by kernel_rfl
theorem Vr (a:Int) (b:Int) (band:Int) (b0:aC) (hb:b0.n=0) (h0:ae (a - b)) (h1:ae (b - a)):Sym.af Tryz.prog b0 [.code (aj Tryz.f90)] ⟨ay Tryz.f90 [.c (.int .i64 a),.c (.int .i64 b),.c (.int .i64 band)],([]:Heap cod)⟩ (Sym.Ends Tryz.prog Tryz.f90 0 (.c (.bool (decide (max (a - b) (b - a)≤band)))) []):=by
 refine af.go (cfg:=wx) mE mixed Bj 400 hb (Zp a b band) ?_;simp [T.wp,bF,h0,h1]
def Lj:aH cod:=fun args H=>match args,H with
 | [.c (.int .i64 a),.c (.int .i64 b),.c (.int .i64 band)],[]=>.aa ((ae (a - b))∧(ae (b - a))) (.ret (.c (.bool (decide (max (a - b) (b - a)≤band))),[]))
 | _,_=>.fail
theorem Kz:Sound Tryz.prog cod 90 Lj:=ax (cfg:=wx) mE mixed Tryz.func90 rfl rfl _ fun args H r news hg b0 hb=>by
 unfold Lj at hg;split at hg
 ·skip
  simp only [T.ah,T.wp,Prod.mk.injEq] at hg;obtain ⟨⟨q0,q1⟩,rfl,rfl⟩:=hg;exact Vr _ _ _ b0 hb (by assumption) (by assumption)
 ·exact hg.elim
def IW:aQ cod:=(90,.p Lj)::wI
def Iw:aT cod:=c9 IW
theorem sY:cv Tryz.prog cod IW:=.cons Kz mE
def xx:bA:=[]
theorem SS (a1 a2 a3 a4 a5 a6:Int) (b1 b2 b3 b4 b5 b6:Int) (band:Int):aI Iw xx Tryz.f52.results.toList 0 400 [.code (aj Tryz.f52)] ⟨ay Tryz.f52 [.agg [.int .i64 a1,.int .i64 a2,.int .i64 a3,.int .i64 a4,.int .i64 a5,.int .i64 a6],.agg [.int .i64 b1,.int .i64 b2,.int .i64 b3,.int .i64 b4,.int .i64 b5,.int .i64 b6],.c (.int .i64 band)],([]:Heap cod)⟩=
 cond (decide (a1=b1)) (
 cond (decide (a5=b5)) (
  cond (!decide (a5= -1)) (
   .aa (ae (a6+b6)) (
   .aa ((F.b9 a2∧(F.b9 a3∧(F.b9 b2∧F.b9 b3)))) (
   cond (F.de (a6+b6) 0 8000000&&decide (F.iw a2 a3 b2 b3≤(a6+b6)*(a6+b6))) (
    .aa ((ae (a4 - b4)∧ae (b4 - a4))) (
    .ret (.fin (.c (.bool (decide (max (a4 - b4) (b4 - a4)≤band)))) []))) (
    .ret (.fin (.c (.bool false)) []))))) (
   .ret (.fin (.c (.bool false)) []))) (
  .ret (.fin (.c (.bool false)) []))) (
 .ret (.fin (.c (.bool false)) [])):=by kernel_rfl
theorem Ox (a1 a2 a3 a4 a5 a6:Int) (b1 b2 b3 b4 b5 b6:Int) (band:Int) (b0:aC) (hb:b0.n=0) (h0:F.Mj (a1,a2,a3,a4,a5,a6)) (h1:F.Mj (b1,b2,b3,b4,b5,b6)):Sym.af Tryz.prog b0 [.code (aj Tryz.f52)] ⟨ay Tryz.f52 [.agg [.int .i64 a1,.int .i64 a2,.int .i64 a3,.int .i64 a4,.int .i64 a5,.int .i64 a6],.agg [.int .i64 b1,.int .i64 b2,.int .i64 b3,.int .i64 b4,.int .i64 b5,.int .i64 b6],.c (.int .i64 band)],([]:Heap cod)⟩ (Sym.Ends Tryz.prog Tryz.f52 0 (.c (.bool (F.zX band (b1,b2,b3,b4,b5,b6) (a1,a2,a3,a4,a5,a6)))) []):=by
 refine af.go (cfg:=Iw) sY mixed xx 400 hb (SS a1 a2 a3 a4 a5 a6 b1 b2 b3 b4 b5 b6 band) ?_;have ba:=F.abl h0;have bb:=F.abl h1;simp only at ba bb;have w1:ae (a6+b6):=by unfold ae;omega
 have w2:F.b9 a2∧F.b9 a3∧F.b9 b2∧F.b9 b3:=by unfold F.b9;omega
 have w3:ae (a4 - b4):=by unfold ae;omega
 have w4:ae (b4 - a4):=by unfold ae;omega
 unfold F.zX;simp only [T.wp,T.wp_cond,bF];by_cases g1:a1=b1<;>by_cases g2:a5=b5<;>by_cases g3:a5= -1<;>cases g4:(F.de (a6+b6) 0 8000000&&decide (F.iw a2 a3 b2 b3≤(a6+b6)*(a6+b6)))<;>simp_all<;>exact ⟨w3,w4⟩
def Ee:aH cod:=fun args H=>match args,H with
 | [.agg [.int .i64 a1,.int .i64 a2,.int .i64 a3,.int .i64 a4,.int .i64 a5,.int .i64 a6],.agg [.int .i64 b1,.int .i64 b2,.int .i64 b3,.int .i64 b4,.int .i64 b5,.int .i64 b6],.c (.int .i64 band)],[]=>.aa ((F.Mj (a1,a2,a3,a4,a5,a6))∧(F.Mj (b1,b2,b3,b4,b5,b6))) (.ret (.c (.bool (F.zX band (b1,b2,b3,b4,b5,b6) (a1,a2,a3,a4,a5,a6))),[]))
 | _,_=>.fail
theorem Ft:Sound Tryz.prog cod 52 Ee:=ax (cfg:=Iw) sY mixed Tryz.func52 rfl rfl _ fun args H r news hg b0 hb=>by
 unfold Ee at hg;split at hg
 ·skip
  simp only [T.ah,T.wp,Prod.mk.injEq] at hg;obtain ⟨⟨q0,q1⟩,rfl,rfl⟩:=hg;exact Ox _ _ _ _ _ _ _ _ _ _ _ _ _ b0 hb (by assumption) (by assumption)
 ·exact hg.elim
def Cw:aQ cod:=(52,.p Ee)::IW
def Cj:aT cod:=c9 Cw
theorem pw:cv Tryz.prog cod Cw:=.cons Ft sY
def Bm:bA:=[]
theorem Z9 (x1 x2 x3 x4 x5 x6:Int) (a b c d e f:Int) (g:Int):aI Cj Bm Tryz.f51.results.toList 2 400 [.code (aj Tryz.f51)] ⟨ay Tryz.f51 [.agg [.int .i64 x1,.int .i64 x2,.int .i64 x3,.int .i64 x4,.int .i64 x5,.int .i64 x6],.c (.ptr 0 0 0),.c (.ptr 1 0 0)],([.aY [.int .i64 a,.int .i64 b,.int .i64 c,.int .i64 d,.int .i64 e,.int .i64 f],.aY [.int .i64 g]]:Heap cod)⟩=
.aa ((F.Mj (x1,x2,x3,x4,x5,x6)∧F.Mj (a,b,c,d,e,f))) (
.ret (.fin (.c (.bool (F.zX g (a,b,c,d,e,f) (x1,x2,x3,x4,x5,x6)))) [])):=by kernel_rfl
theorem WV (x1 x2 x3 x4 x5 x6:Int) (a b c d e f:Int) (g:Int) (b0:aC) (hb:b0.n=2) (h0:F.AA (a,b,c,d,e,f) g) (h1:F.Mj (x1,x2,x3,x4,x5,x6)):Sym.af Tryz.prog b0 [.code (aj Tryz.f51)] ⟨ay Tryz.f51 [.agg [.int .i64 x1,.int .i64 x2,.int .i64 x3,.int .i64 x4,.int .i64 x5,.int .i64 x6],.c (.ptr 0 0 0),.c (.ptr 1 0 0)],([.aY [.int .i64 a,.int .i64 b,.int .i64 c,.int .i64 d,.int .i64 e,.int .i64 f],.aY [.int .i64 g]]:Heap cod)⟩ (Sym.Ends Tryz.prog Tryz.f51 2 (.c (.bool (F.zX g (a,b,c,d,e,f) (x1,x2,x3,x4,x5,x6)))) []):=by
 refine af.go (cfg:=Cj) pw mixed Bm 400 hb (Z9 x1 x2 x3 x4 x5 x6 a b c d e f g) ?_;simp [T.wp,bF,h0.1,h1]
def Ls:aH cod:=fun args H=>match args,H with
 | [.agg [.int .i64 x1,.int .i64 x2,.int .i64 x3,.int .i64 x4,.int .i64 x5,.int .i64 x6],.c (.ptr 0 0 0),.c (.ptr 1 0 0)],[.aY [.int .i64 a,.int .i64 b,.int .i64 c,.int .i64 d,.int .i64 e,.int .i64 f],.aY [.int .i64 g]]=>.aa ((F.AA (a,b,c,d,e,f) g)∧(F.Mj (x1,x2,x3,x4,x5,x6))) (.ret (.c (.bool (F.zX g (a,b,c,d,e,f) (x1,x2,x3,x4,x5,x6))),[]))
 | _,_=>.fail
theorem Mk:Sound Tryz.prog cod 51 Ls:=ax (cfg:=Cj) pw mixed Tryz.func51 rfl rfl _ fun args H r news hg b0 hb=>by
 unfold Ls at hg;split at hg
 ·skip
  simp only [T.ah,T.wp,Prod.mk.injEq] at hg;obtain ⟨⟨q0,q1⟩,rfl,rfl⟩:=hg;exact WV _ _ _ _ _ _ _ _ _ _ _ _ _ b0 hb (by assumption) (by assumption)
 ·exact hg.elim
def I4:aQ cod:=(51,.p Ls)::Cw
def sI:aT cod:=c9 I4
theorem kH:cv Tryz.prog cod I4:=.cons Mk pw
def nb:bA:=[(2,[0,1,7,8],3)]
theorem acW (l:List (Int×Int×Int×Int×Int×Int)) (aA:Bool) (cF cA:Nat) (a b c d e f:Int) (g:Int):aI sI nb Tryz.f89.results.toList 3 400 [.code (aj Tryz.f89)] ⟨ay Tryz.f89 [.c (.ai 0 cF cA aA),.c (.fn 51 [(1,0,0),(2,0,0)])],([.aB 2 l,.aY [.int .i64 a,.int .i64 b,.int .i64 c,.int .i64 d,.int .i64 e,.int .i64 f],.aY [.int .i64 g]]:Heap cod)⟩=
.ret (.cut (cutAt Tryz.f89 2) ⟨bc 10 [(0,.c (.ai 0 (cF) (cA) aA)),(0,.c (.fn 51 [(1,0,0),(2,0,0)])),(5,.c (.int .i64 (Int.ofNat cA))),(0,.c (.int .i64 0))],[.aB 2 l,.aY [.int .i64 a,.int .i64 b,.int .i64 c,.int .i64 d,.int .i64 e,.int .i64 f],.aY [.int .i64 g]]⟩):=by kernel_rfl
def HP (l:List (Int×Int×Int×Int×Int×Int)) (aA:Bool) (cF cA:Nat) (a b c d e f:Int) (g:Int) (i:Int):St cod:=⟨bc 10 [(0,.c (.ai 0 (cF) (cA) aA)),(0,.c (.fn 51 [(1,0,0),(2,0,0)])),(5,.c (.int .i64 (Int.ofNat cA))),(0,.c (.int .i64 i))],[.aB 2 l,.aY [.int .i64 a,.int .i64 b,.int .i64 c,.int .i64 d,.int .i64 e,.int .i64 f],.aY [.int .i64 g]]⟩
theorem UO (l:List (Int×Int×Int×Int×Int×Int)) (aA:Bool) (cF cA:Nat) (a b c d e f:Int) (g:Int) (i:Int):aI sI nb Tryz.f89.results.toList 3 400 (cutAt Tryz.f89 2) (HP l aA cF cA a b c d e f g i)=
 (let q0:=List.getD l (cF+Int.toNat i) (cod 2).d;
 cond (decide (i < Int.ofNat cA)) (.aa (((0:Int)≤i∧i < Int.ofNat cA)) (.aa (cF+Int.toNat i < List.length l) (.aa ((F.AA (a,b,c,d,e,f) g∧F.Mj (q0.1,q0.2.1,q0.2.2.1,q0.2.2.2.1,q0.2.2.2.2.1,q0.2.2.2.2.2))) (cond (F.zX g (a,b,c,d,e,f) (q0.1,q0.2.1,q0.2.2.1,q0.2.2.2.1,q0.2.2.2.2.1,q0.2.2.2.2.2)) (.ret (.fin (.c (.int .i64 i)) [])) (.aa (ae (i+1)) (.ret (.cut (cutAt Tryz.f89 2) ⟨bc 10 [(0,.c (.ai 0 (cF) (cA) aA)),(0,.c (.fn 51 [(1,0,0),(2,0,0)])),(5,.c (.int .i64 (Int.ofNat cA))),(0,.c (.int .i64 (i+1)))],[.aB 2 l,.aY [.int .i64 a,.int .i64 b,.int .i64 c,.int .i64 d,.int .i64 e,.int .i64 f],.aY [.int .i64 g]]⟩))))))) (.ret (.fin (.c (.int .i64 (-1))) []))):=by kernel_rfl
theorem UN (l:List F.Sp) (aA:Bool) (cF cA:Nat) (a b c d e f g:Int) (h1:cF+cA≤l.length) (h2:l.length≤1000000) (h3:F.AA (a,b,c,d,e,f) g) (h4:F.oN l) (b0:aC) (Ps:b0.n=3) (R:SV):∀(m:Nat) (i:Int),0≤i→i+m=cA→R= .c (.int .i64 (F.DF (F.zX g (a,b,c,d,e,f)) l m (cF+i.toNat) i))→
 Sym.af Tryz.prog b0 (cutAt Tryz.f89 2) (HP l aA cF cA a b c d e f g i) (Sym.Ends Tryz.prog Tryz.f89 3 R []):=by
 intro m
 induction m with
 | zero=>
   intro i h0 hm hR;refine af.go (cfg:=sI) kH mixed nb 400 Ps (UO l aA cF cA a b c d e f g i) ?_;have k1:¬i < (cA:Int):=by omega
   simp only [T.wp,T.wp_cond,bF,Int.ofNat_eq_natCast,decide_eq_true_eq,and_true,k1,if_false,hR]
   rfl
 | succ m ih=>
   intro i h0 hm hR;have k1:i < (cA:Int):=by omega
   have k2:cF+i.toNat < l.length:=by omega
   have k3:ae (i+1):=by unfold ae;omega
   have k4:cF+(i+1).toNat=cF+i.toNat+1:=by omega
   have hd:(cod 2).d=F.dq:=rfl;have hx:F.Mj (l.getD (cF+i.toNat) F.dq):=h4 _ (by rw [List.getD,List.getElem?_eq_getElem k2];exact List.getElem_mem k2);have nx:=ih (i+1) (by omega) (by omega);rw [k4] at nx;refine af.go (cfg:=sI) kH mixed nb 400 Ps (UO l aA cF cA a b c d e f g i) ?_;have e1:F.zX g (a,b,c,d,e,f) ((l.getD (cF+i.toNat) F.dq).1,(l.getD (cF+i.toNat) F.dq).2.1,(l.getD (cF+i.toNat) F.dq).2.2.1,(l.getD (cF+i.toNat) F.dq).2.2.2)=F.zX g (a,b,c,d,e,f) (l.getD (cF+i.toNat) F.dq):=rfl;simp only [T.wp,T.wp_cond,bF,Int.ofNat_eq_natCast,decide_eq_true_eq,and_true,true_and,h0,k1,k2,k3,hd,h3,e1,if_true];simp only [F.DF] at hR;refine ⟨hx,?_⟩;cases hq:F.zX g (a,b,c,d,e,f) (l.getD (cF+i.toNat) F.dq)
   ·rw [hq,if_neg (by simp)] at hR;rw [if_neg (by simp)];exact nx hR
   ·rw [hq,if_pos rfl] at hR;rw [if_pos rfl];rw [hR]
theorem Y8 (l:List (Int×Int×Int×Int×Int×Int)) (aA:Bool) (cF cA:Nat) (a b c d e f:Int) (g:Int) (b0:aC) (hb:b0.n=3) (h0:cF+cA≤List.length l) (h1:List.length l≤1000000) (h2:F.AA (a,b,c,d,e,f) g) (h3:F.oN l):Sym.af Tryz.prog b0 [.code (aj Tryz.f89)] ⟨ay Tryz.f89 [.c (.ai 0 cF cA aA),.c (.fn 51 [(1,0,0),(2,0,0)])],([.aB 2 l,.aY [.int .i64 a,.int .i64 b,.int .i64 c,.int .i64 d,.int .i64 e,.int .i64 f],.aY [.int .i64 g]]:Heap cod)⟩ (Sym.Ends Tryz.prog Tryz.f89 3 (.c (.int .i64 (F.DF (F.zX g (a,b,c,d,e,f)) l cA cF 0))) []):=by
 refine af.go (cfg:=sI) kH mixed nb 400 hb (acW l aA cF cA a b c d e f g) ?_;simp only [T.wp,bF,Int.ofNat_eq_natCast];exact UN l aA cF cA a b c d e f g h0 h1 h2 h3 b0 hb _ cA 0 (by omega) (by omega) rfl
def Wn:aH cod:=fun args H=>match args,H with
 | [.c (.ai 0 cF cA _),.c (.fn 51 [(1,0,0),(2,0,0)])],[o0,.aY [.int .i64 a,.int .i64 b,.int .i64 c,.int .i64 d,.int .i64 e,.int .i64 f],.aY [.int .i64 g]]=>(match o0.cV 2 with | some l=>.aa ((cF+cA≤List.length l)∧(List.length l≤1000000)∧(F.AA (a,b,c,d,e,f) g)∧(F.oN l)) (.ret (.c (.int .i64 (F.DF (F.zX g (a,b,c,d,e,f)) l cA cF 0)),[])) | none=>.fail)
 | _,_=>.fail
theorem PE:Sound Tryz.prog cod 89 Wn:=ax (cfg:=sI) kH mixed Tryz.func89 rfl rfl _ fun args H r news hg b0 hb=>by
 unfold Wn at hg;split at hg
 ·skip
  split at hg
  ·rename_i l gG;cases aR gG;simp only [T.ah,T.wp,Prod.mk.injEq] at hg;obtain ⟨⟨q0,q1,q2,q3⟩,rfl,rfl⟩:=hg;exact Y8 _ _ _ _ _ _ _ _ _ _ _ b0 hb (by assumption) (by assumption) (by assumption) (by assumption)
  ·exact hg.elim
 ·exact hg.elim
def Sj:aQ cod:=(89,.p Wn)::I4
def RN:aT cod:=c9 Sj
theorem wQ:cv Tryz.prog cod Sj:=.cons PE kH
def Ba:bA:=[]
theorem Ye (l:List (Int×Int×Int×Int×Int×Int)) (aA:Bool) (cF cA:Nat) (a b c d e f:Int) (g:Int):aI RN Ba Tryz.f50.results.toList 3 400 [.code (aj Tryz.f50)] ⟨ay Tryz.f50 [.c (.ai 0 cF cA aA),.c (.fn 51 [(1,0,0),(2,0,0)])],([.aB 2 l,.aY [.int .i64 a,.int .i64 b,.int .i64 c,.int .i64 d,.int .i64 e,.int .i64 f],.aY [.int .i64 g]]:Heap cod)⟩=
.aa ((cF+cA≤List.length l∧(List.length l≤1000000∧(F.AA (a,b,c,d,e,f) g∧F.oN l)))) (
.ret (.fin (.c (.bool (decide (0≤F.DF (F.zX g (a,b,c,d,e,f)) l cA cF 0)))) [])):=by kernel_rfl
theorem Tk (l:List (Int×Int×Int×Int×Int×Int)) (aA:Bool) (cF cA:Nat) (a b c d e f:Int) (g:Int) (b0:aC) (hb:b0.n=3) (h0:cF+cA≤List.length l) (h1:List.length l≤1000000) (h2:F.AA (a,b,c,d,e,f) g) (h3:F.oN l):Sym.af Tryz.prog b0 [.code (aj Tryz.f50)] ⟨ay Tryz.f50 [.c (.ai 0 cF cA aA),.c (.fn 51 [(1,0,0),(2,0,0)])],([.aB 2 l,.aY [.int .i64 a,.int .i64 b,.int .i64 c,.int .i64 d,.int .i64 e,.int .i64 f],.aY [.int .i64 g]]:Heap cod)⟩ (Sym.Ends Tryz.prog Tryz.f50 3 (.c (.bool (F.vw (F.zX g (a,b,c,d,e,f)) l cA cF))) []):=by
 refine af.go (cfg:=RN) wQ mixed Ba 400 hb (Ye l aA cF cA a b c d e f g) ?_;simp only [T.wp,bF,and_true,Gv _ _ _ _ _ (Int.le_refl 0)];exact ⟨h0,h1,h2,h3⟩
def K2:aH cod:=fun args H=>match args,H with
 | [.c (.ai 0 cF cA _),.c (.fn 51 [(1,0,0),(2,0,0)])],[o0,.aY [.int .i64 a,.int .i64 b,.int .i64 c,.int .i64 d,.int .i64 e,.int .i64 f],.aY [.int .i64 g]]=>(match o0.cV 2 with | some l=>.aa ((cF+cA≤List.length l)∧(List.length l≤1000000)∧(F.AA (a,b,c,d,e,f) g)∧(F.oN l)) (.ret (.c (.bool (F.vw (F.zX g (a,b,c,d,e,f)) l cA cF)),[])) | none=>.fail)
 | _,_=>.fail
theorem Jv:Sound Tryz.prog cod 50 K2:=ax (cfg:=RN) wQ mixed Tryz.func50 rfl rfl _ fun args H r news hg b0 hb=>by
 unfold K2 at hg;split at hg
 ·skip
  split at hg
  ·rename_i l gG;cases aR gG;simp only [T.ah,T.wp,Prod.mk.injEq] at hg;obtain ⟨⟨q0,q1,q2,q3⟩,rfl,rfl⟩:=hg;exact Tk _ _ _ _ _ _ _ _ _ _ _ b0 hb (by assumption) (by assumption) (by assumption) (by assumption)
  ·exact hg.elim
 ·exact hg.elim
def IJ:aQ cod:=(50,.p K2)::Sj
def RK:aT cod:=c9 IJ
theorem AO:cv Tryz.prog cod IJ:=.cons Jv wQ
end
end
end Go.Proofs.YtcjagpfbhnmggaaGreatDoor
