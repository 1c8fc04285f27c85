/- Parts of the proof, one behind the other: Cc, ShP, InsP, Cs. -/
import Derived.Test.YtkfkfihjdohjfaaCb
import Derived.Shelf.SlGeneric
import Derived.Ground.SlgmProg
import Derived.Ground.SlsfProg
import Derived.Shelf.SortM.Plain
import Derived.Shelf.SortM.SortNone
import Derived.Shelf.SlSortCmp.WholeK
import Derived.Shelf.SlSortCmp.NoneTotal
import Derived.Test.YtkfkfihjdohjfaaChecked
import Derived.Sort.LotA
import Derived.WalkKit
import Derived.ProofKit
import Derived.OpenShut
import Derived.ShutString
import Derived.WalkSpells
import Derived.WalkLawsBesides
import Derived.Handy
import Derived.Deep.QuietTactic
import Derived.BigQuiet
import Derived.Lib.Hide
import Derived.Lib.SmallJoins
section
namespace Go.Proofs.Ytkfkfihjdohjfaa
open Sym Go.RowKit
noncomputable section
set_option maxRecDepth 100000
set_option maxHeartbeats 4000000



def cuts_lcmp : Cuts := []

theorem lcmp_t0 (a1 : List UInt8) (a2 a3 : Int) (b1 : List UInt8) (b2 b3 : Int) : symF C_con cuts_lcmp Try.f57.results.toList 0 400 [.code (codeOf Try.f57)] ⟨argsS Try.f57 [.agg [.str a1, .int .i64 a2, .int .i64 a3], .agg [.str b1, .int .i64 b2, .int .i64 b3]], ([] : Heap cod)⟩ =
.need (i64ok (a3 - b3)) (
.ret (.fin (.c (.int .i64 (a3 - b3))) [])) := by kernel_rfl



theorem lcmp_run (a1 : List UInt8) (a2 a3 : Int) (b1 : List UInt8) (b2 b3 : Int) (b0 : Base) (hb : b0.n = 0) (h0 : 0 ≤ a3 ∧ a3 ≤ 200000) (h1 : 0 ≤ b3 ∧ b3 ≤ 200000) : Sym.Runs Try.prog b0 [.code (codeOf Try.f57)] ⟨argsS Try.f57 [.agg [.str a1, .int .i64 a2, .int .i64 a3], .agg [.str b1, .int .i64 b2, .int .i64 b3]], ([] : Heap cod)⟩ (Sym.Ends Try.prog Try.f57 0 (.c (.int .i64 (a3 - b3))) []) := by
  refine Runs.go (cfg := C_con) L_con_ok mixed cuts_lcmp 400 hb (lcmp_t0 a1 a2 a3 b1 b2 b3) ?_
  simp only [T.wp, T.wp_cond, Aft, Int.ofNat_eq_natCast, decide_eq_true_eq, and_true, true_and, Nat.zero_add, Bool.not_eq_true', decide_eq_false_iff_not]
  unfold Sym.i64ok
  omega



noncomputable def s_lcmp : Summ cod := fun args H => match args, H with
  | [.agg [.str a1, .int .i64 a2, .int .i64 a3], .agg [.str b1, .int .i64 b2, .int .i64 b3]], [] => .need ((0 ≤ a3 ∧ a3 ≤ 200000) ∧ (0 ≤ b3 ∧ b3 ≤ 200000)) (.ret (.c (.int .i64 (a3 - b3)), []))
  | _, _ => .fail


theorem lcmp_sound : Sound Try.prog cod 57 s_lcmp := sound_runs (cfg := C_con) L_con_ok mixed Try.func57 rfl rfl _ fun args H r news hg b0 hb => by
  unfold s_lcmp at hg
  split at hg
  · skip
    simp only [T.gives, T.wp, Prod.mk.injEq] at hg
    obtain ⟨⟨q0, q1⟩, rfl, rfl⟩ := hg
    exact lcmp_run _ _ _ _ _ _ b0 hb (by assumption) (by assumption)
  · exact hg.elim

noncomputable def L_lcmp : Sums cod := (57, .p s_lcmp) :: L_con
noncomputable def C_lcmp : Cfg cod := mkC L_lcmp

theorem L_lcmp_ok : Snd Try.prog cod L_lcmp := .cons lcmp_sound L_con_ok


end
end Go.Proofs.Ytkfkfihjdohjfaa
end
section
/- The contracts of the library that this proof leans on, laid at this program. -/
namespace Go.Proofs
open Go.Shelf
def Ytkfkfihjdohjfaa.laysStrip_ren : Go.Shelf.Ren := ⟨fun | 6 => 44 | 15 => 53 | 14 => 59 | 28 => 75 | 29 => 76 | 20 => 79 | 21 => 80 | 22 => 81 | 23 => 82 | 24 => 83 | 25 => 84 | 26 => 85 | 27 => 86 | 46 => 95 | 47 => 90 | 48 => 91 | 49 => 96 | 50 => 97 | 57 => 102 | n => n, fun | 22 => 29 | 24 => 26 | 25 => 76 | 3 => 3 | 39 => 85 | 0 => 0 | 53 => 102 | 55 => 104 | 4 => 4 | 46 => 96 | 45 => 95 | 50 => 80 | 5 => 5 | 9 => 9 | 66 => 111 | 70 => 115 | 76 => 121 | 77 => 122 | n => n, fun | n => n⟩
theorem Ytkfkfihjdohjfaa.laysStrip : Go.Proofs.SlLaysF0.n6 Try.prog Ytkfkfihjdohjfaa.laysStrip_ren := {
  mixed := by kernel_rfl
  f6 := ⟨Try.f44.name, by decide, Try.func44.trans (congrArg some (by kernel_rfl))⟩
  f14 := ⟨Try.f59.name, by decide, Try.func59.trans (congrArg some (by kernel_rfl))⟩
  f15 := Try.func53.trans (congrArg some (by kernel_rfl))
  f20 := ⟨Try.f79.name, by decide, Try.func79.trans (congrArg some (by kernel_rfl))⟩
  f21 := ⟨Try.f80.name, by decide, Try.func80.trans (congrArg some (by kernel_rfl))⟩
  f22 := ⟨Try.f81.name, by decide, Try.func81.trans (congrArg some (by kernel_rfl))⟩
  f23 := ⟨Try.f82.name, by decide, Try.func82.trans (congrArg some (by kernel_rfl))⟩
  f24 := ⟨Try.f83.name, by decide, Try.func83.trans (congrArg some (by kernel_rfl))⟩
  f25 := ⟨Try.f84.name, by decide, Try.func84.trans (congrArg some (by kernel_rfl))⟩
  f26 := ⟨Try.f85.name, by decide, Try.func85.trans (congrArg some (by kernel_rfl))⟩
  f27 := ⟨Try.f86.name, by decide, Try.func86.trans (congrArg some (by kernel_rfl))⟩
  f28 := Try.func75.trans (congrArg some (by kernel_rfl))
  f29 := Try.func76.trans (congrArg some (by kernel_rfl))
  f46 := ⟨Try.f95.name, by decide, Try.func95.trans (congrArg some (by kernel_rfl))⟩
  f47 := Try.func90.trans (congrArg some (by kernel_rfl))
  f48 := Try.func91.trans (congrArg some (by kernel_rfl))
  f49 := ⟨Try.f96.name, by decide, Try.func96.trans (congrArg some (by kernel_rfl))⟩
  f50 := ⟨Try.f97.name, by decide, Try.func97.trans (congrArg some (by kernel_rfl))⟩
  f57 := ⟨Try.f102.name, by decide, Try.func102.trans (congrArg some (by kernel_rfl))⟩
  t0 := Try.underlying0
  a0 := Try.isAgg0
  z0 := Try.sizeOf0
  v0 := Try.zeroValue0
  t3 := Try.underlying3
  a3 := Try.isAgg3
  z3 := Try.sizeOf3
  v3 := Try.zeroValue3
  t4 := Try.underlying4
  a4 := Try.isAgg4
  z4 := Try.sizeOf4
  v4 := Try.zeroValue4
  t5 := Try.underlying5
  a5 := Try.isAgg5
  z5 := Try.sizeOf5
  v5 := Try.zeroValue5
  t9 := Try.underlying9
  a9 := Try.isAgg9
  z9 := Try.sizeOf9
  v9 := Try.zeroValue9
  t22 := Try.underlying29
  a22 := Try.isAgg29
  z22 := Try.sizeOf29
  v22 := Try.zeroValue29
  t25 := Try.underlying76
  a25 := Try.isAgg76
  z25 := Try.sizeOf76
  v25 := Try.zeroValue76
  t39 := Try.underlying85
  a39 := Try.isAgg85
  z39 := Try.sizeOf85
  v39 := Try.zeroValue85
  t45 := Try.underlying95
  a45 := Try.isAgg95
  z45 := Try.sizeOf95
  v45 := Try.zeroValue95
  t46 := Try.underlying96
  a46 := Try.isAgg96
  z46 := Try.sizeOf96
  v46 := Try.zeroValue96
  t50 := Try.underlying80
  a50 := Try.isAgg80
  z50 := Try.sizeOf80
  v50 := Try.zeroValue80
  t53 := Try.underlying102
  a53 := Try.isAgg102
  z53 := Try.sizeOf102
  v53 := Try.zeroValue102
  t55 := Try.underlying104
  a55 := Try.isAgg104
  z55 := Try.sizeOf104
  v55 := Try.zeroValue104
  t66 := Try.underlying111
  a66 := Try.isAgg111
  z66 := Try.sizeOf111
  v66 := Try.zeroValue111
  t70 := Try.underlying115
  a70 := Try.isAgg115
  z70 := Try.sizeOf115
  v70 := Try.zeroValue115
  t76 := Try.underlying121
  a76 := Try.isAgg121
  z76 := Try.sizeOf121
  v76 := Try.zeroValue121
  t77 := Try.underlying122
  a77 := Try.isAgg122
  z77 := Try.sizeOf122
  v77 := Try.zeroValue122 }
def Ytkfkfihjdohjfaa.laysCont_ren : Go.Shelf.Ren := ⟨fun | 6 => 31 | 15 => 53 | 14 => 52 | 28 => 75 | 29 => 76 | 20 => 67 | 21 => 68 | 22 => 69 | 23 => 70 | 24 => 71 | 25 => 72 | 26 => 73 | 27 => 74 | 46 => 89 | 47 => 90 | 48 => 91 | 49 => 92 | 50 => 93 | 57 => 100 | n => n, fun | 22 => 51 | 24 => 56 | 25 => 62 | 3 => 3 | 39 => 85 | 0 => 0 | 53 => 102 | 55 => 104 | 4 => 4 | 46 => 96 | 45 => 95 | 50 => 80 | 5 => 5 | 9 => 9 | 66 => 111 | 70 => 115 | 76 => 121 | 77 => 122 | n => n, fun | n => n⟩
theorem Ytkfkfihjdohjfaa.laysCont : Go.Proofs.SlLaysF0.n6 Try.prog Ytkfkfihjdohjfaa.laysCont_ren := {
  mixed := by kernel_rfl
  f6 := ⟨Try.f31.name, by decide, Try.func31.trans (congrArg some (by kernel_rfl))⟩
  f14 := ⟨Try.f52.name, by decide, Try.func52.trans (congrArg some (by kernel_rfl))⟩
  f15 := Try.func53.trans (congrArg some (by kernel_rfl))
  f20 := ⟨Try.f67.name, by decide, Try.func67.trans (congrArg some (by kernel_rfl))⟩
  f21 := ⟨Try.f68.name, by decide, Try.func68.trans (congrArg some (by kernel_rfl))⟩
  f22 := ⟨Try.f69.name, by decide, Try.func69.trans (congrArg some (by kernel_rfl))⟩
  f23 := ⟨Try.f70.name, by decide, Try.func70.trans (congrArg some (by kernel_rfl))⟩
  f24 := ⟨Try.f71.name, by decide, Try.func71.trans (congrArg some (by kernel_rfl))⟩
  f25 := ⟨Try.f72.name, by decide, Try.func72.trans (congrArg some (by kernel_rfl))⟩
  f26 := ⟨Try.f73.name, by decide, Try.func73.trans (congrArg some (by kernel_rfl))⟩
  f27 := ⟨Try.f74.name, by decide, Try.func74.trans (congrArg some (by kernel_rfl))⟩
  f28 := Try.func75.trans (congrArg some (by kernel_rfl))
  f29 := Try.func76.trans (congrArg some (by kernel_rfl))
  f46 := ⟨Try.f89.name, by decide, Try.func89.trans (congrArg some (by kernel_rfl))⟩
  f47 := Try.func90.trans (congrArg some (by kernel_rfl))
  f48 := Try.func91.trans (congrArg some (by kernel_rfl))
  f49 := ⟨Try.f92.name, by decide, Try.func92.trans (congrArg some (by kernel_rfl))⟩
  f50 := ⟨Try.f93.name, by decide, Try.func93.trans (congrArg some (by kernel_rfl))⟩
  f57 := ⟨Try.f100.name, by decide, Try.func100.trans (congrArg some (by kernel_rfl))⟩
  t0 := Try.underlying0
  a0 := Try.isAgg0
  z0 := Try.sizeOf0
  v0 := Try.zeroValue0
  t3 := Try.underlying3
  a3 := Try.isAgg3
  z3 := Try.sizeOf3
  v3 := Try.zeroValue3
  t4 := Try.underlying4
  a4 := Try.isAgg4
  z4 := Try.sizeOf4
  v4 := Try.zeroValue4
  t5 := Try.underlying5
  a5 := Try.isAgg5
  z5 := Try.sizeOf5
  v5 := Try.zeroValue5
  t9 := Try.underlying9
  a9 := Try.isAgg9
  z9 := Try.sizeOf9
  v9 := Try.zeroValue9
  t22 := Try.underlying51
  a22 := Try.isAgg51
  z22 := Try.sizeOf51
  v22 := Try.zeroValue51
  t25 := Try.underlying62
  a25 := Try.isAgg62
  z25 := Try.sizeOf62
  v25 := Try.zeroValue62
  t39 := Try.underlying85
  a39 := Try.isAgg85
  z39 := Try.sizeOf85
  v39 := Try.zeroValue85
  t45 := Try.underlying95
  a45 := Try.isAgg95
  z45 := Try.sizeOf95
  v45 := Try.zeroValue95
  t46 := Try.underlying96
  a46 := Try.isAgg96
  z46 := Try.sizeOf96
  v46 := Try.zeroValue96
  t50 := Try.underlying80
  a50 := Try.isAgg80
  z50 := Try.sizeOf80
  v50 := Try.zeroValue80
  t53 := Try.underlying102
  a53 := Try.isAgg102
  z53 := Try.sizeOf102
  v53 := Try.zeroValue102
  t55 := Try.underlying104
  a55 := Try.isAgg104
  z55 := Try.sizeOf104
  v55 := Try.zeroValue104
  t66 := Try.underlying111
  a66 := Try.isAgg111
  z66 := Try.sizeOf111
  v66 := Try.zeroValue111
  t70 := Try.underlying115
  a70 := Try.isAgg115
  z70 := Try.sizeOf115
  v70 := Try.zeroValue115
  t76 := Try.underlying121
  a76 := Try.isAgg121
  z76 := Try.sizeOf121
  v76 := Try.zeroValue121
  t77 := Try.underlying122
  a77 := Try.isAgg122
  z77 := Try.sizeOf122
  v77 := Try.zeroValue122 }
end Go.Proofs
end
section
/- Sorting by insertion: where each one to be put in is behind all that lie ahead of it by a second measure, the order of equals is that of the second measure. -/
namespace Go.Proofs.Ytkfkfihjdohjfaa
open Go.Sort
variable {α : Type} [Inhabited α]
theorem swp_at (d : Array α) {j : Nat} (h : j + 1 < d.size) : (swp d (j + 1) j)[j]! = d[j + 1]! ∧ (swp d (j + 1) j)[j + 1]! = d[j]! ∧ ∀ q, q ≠ j → q ≠ j + 1 → (swp d (j + 1) j)[q]! = d[q]! := by
  unfold swp
  refine ⟨?_, ?_, fun q h1 h2 => ?_⟩
  · rw [getElem!_pos _ j (by simp; omega), getElem!_pos d (j + 1) h]
    simp
  · rw [getElem!_pos _ (j + 1) (by simp; omega), getElem!_pos d j (by omega)]
    rw [Array.getElem_setIfInBounds (by simp; omega)]
    simp
  · by_cases hq : q < d.size
    · rw [getElem!_pos _ q (by simp; omega), getElem!_pos d q hq]
      rw [Array.getElem_setIfInBounds (by simp; omega), if_neg (Ne.symm h1), Array.getElem_setIfInBounds (by omega), if_neg (Ne.symm h2)]
    · rw [getElem!_neg _ q (by simp; omega), getElem!_neg d q hq]
/-- One is put in: by either test the same. -/
theorem insInner_same (lt lt2 : α → α → Bool) : ∀ (j : Nat) (d : Array α), j < d.size → (∀ q, q < j → lt d[j]! d[q]! = lt2 d[j]! d[q]!) → insInner lt 0 j d = insInner lt2 0 j d
  | 0, d, _, _ => rfl
  | j + 1, d, h, hq => by
    unfold insInner
    rw [hq j (by omega)]
    obtain ⟨s1, s2, s3⟩ := swp_at d h
    split
    · refine insInner_same lt lt2 j _ (by rw [swp_size]; omega) fun q h1 => ?_
      rw [s1, s3 q (by omega) (by omega)]
      exact hq q (by omega)
    · rfl
/-- What lies where behind it. -/
theorem insInner_from (lt : α → α → Bool) : ∀ (j : Nat) (d : Array α), j < d.size → (insInner lt 0 j d).size = d.size ∧ (∀ q, j < q → (insInner lt 0 j d)[q]! = d[q]!) ∧ ∀ q, q ≤ j → ∃ p, p ≤ j ∧ (insInner lt 0 j d)[q]! = d[p]!
  | 0, d, _ => ⟨rfl, fun _ _ => rfl, fun q hq => ⟨q, hq, rfl⟩⟩
  | j + 1, d, h => by
    unfold insInner
    obtain ⟨s1, s2, s3⟩ := swp_at d h
    split
    · obtain ⟨i1, i2, i3⟩ := insInner_from lt j (swp d (j + 1) j) (by rw [swp_size]; omega)
      refine ⟨by rw [i1, swp_size], fun q hq => ?_, fun q hq => ?_⟩
      · rw [i2 q (by omega), s3 q (by omega) (by omega)]
      · by_cases e : q = j + 1
        · subst e
          exact ⟨j, by omega, by rw [i2 (j + 1) (by omega), s2]⟩
        · obtain ⟨p, h1, h2⟩ := i3 q (by omega)
          by_cases ep : p = j
          · subst ep
            exact ⟨p + 1, by omega, by rw [h2, s1]⟩
          · exact ⟨p, by omega, by rw [h2, s3 p ep (by omega)]⟩
    · exact ⟨rfl, fun _ _ => rfl, fun q hq => ⟨q, hq, rfl⟩⟩
theorem insOuter_same (lt lt2 : α → α → Bool) (d0 : Array α) (b : Nat) (hb : b ≤ d0.size) (h : ∀ p i, p < i → i < b → lt d0[i]! d0[p]! = lt2 d0[i]! d0[p]!) :
    ∀ (n i : Nat) (d : Array α), b - i = n → d.size = d0.size → (∀ q, q < i → ∃ p, p < i ∧ d[q]! = d0[p]!) → (∀ q, i ≤ q → d[q]! = d0[q]!) → insOuter lt 0 b i d = insOuter lt2 0 b i d
  | 0, i, d, hn, _, _, _ => by
    rw [insOuter, if_neg (by omega), insOuter, if_neg (by omega)]
  | n + 1, i, d, hn, hs, h1, h2 => by
    have hi : i < b := by omega
    have e : insInner lt 0 i d = insInner lt2 0 i d := insInner_same lt lt2 i d (by omega) fun q hq => by
      obtain ⟨p, p1, p2⟩ := h1 q hq
      rw [h2 i (Nat.le_refl _), p2]
      exact h p i p1 hi
    have u1 : insOuter lt 0 b i d = insOuter lt 0 b (i + 1) (insInner lt 0 i d) := by rw [insOuter, if_pos hi]
    have u2 : insOuter lt2 0 b i d = insOuter lt2 0 b (i + 1) (insInner lt2 0 i d) := by rw [insOuter, if_pos hi]
    rw [u1, u2, e]
    obtain ⟨i1, i2, i3⟩ := insInner_from lt2 i d (by omega)
    refine insOuter_same lt lt2 d0 b hb h n (i + 1) _ (by omega) (by rw [i1, hs]) (fun q hq => ?_) (fun q hq => ?_)
    · obtain ⟨p, p1, p2⟩ := i3 q (by omega)
      by_cases ep : p = i
      · subst ep
        exact ⟨p, by omega, by rw [p2, h2 p (Nat.le_refl _)]⟩
      · obtain ⟨r, r1, r2⟩ := h1 p (by omega)
        exact ⟨r, by omega, by rw [p2, r2]⟩
    · rw [i2 q (by omega), h2 q (by omega)]
theorem insertionSort_same (lt lt2 : α → α → Bool) (d : Array α) (b : Nat) (hb : b ≤ d.size) (h : ∀ p i, p < i → i < b → lt d[i]! d[p]! = lt2 d[i]! d[p]!) : insertionSort lt d 0 b = insertionSort lt2 d 0 b := by
  unfold insertionSort
  exact insOuter_same lt lt2 d b hb h _ 1 d rfl rfl (fun q hq => ⟨q, hq, rfl⟩) (fun _ _ => rfl)
/-- Nothing to put in. -/
theorem insertionSort_none (lt : α → α → Bool) (d : Array α) (a : Nat) : insertionSort lt d a a = d := by
  unfold insertionSort
  rw [insOuter, if_neg (by omega)]
/-- By a total test: the one sorted permutation. -/
theorem insertionSort_list {lt2 : α → α → Bool} (hO : SWO lt2) (hT : ∀ x y, lt2 x y = false → lt2 y x = false → x = y) (d : Array α) : (insertionSort lt2 d 0 d.size).toList = d.toList.mergeSort (fun x y => !lt2 y x) := by
  obtain ⟨h1, h2⟩ := insertionSort_holds hO d 0 d.size (Nat.zero_le _) (Nat.le_refl _)
  exact sorted_unique_holds hO hT d _ h1 h2
end Go.Proofs.Ytkfkfihjdohjfaa
end
section
/- slices.SortStableFunc at no more than twenty contacts, in its own text: sorting by insertion. -/
namespace Go.Proofs.Ytkfkfihjdohjfaa
open Go.ChangeShapes Go.WideShapes Go.ChangeAt Go.RowKit Go.Sort
set_option maxHeartbeats 8000000
variable {α : Type} [Inhabited α]
/-- The call of the insertion sort, as the library's contract says it. -/
def InsAt (enc : α → List Value) (cf : α → α → Int) (g : Nat) (b cap : Nat) (d : Array α) (w : World) : Prop :=
  ∀ a : Nat, a ≤ d.size → Calls Try.prog 67 #[.slice (some ⟨b, 0, none⟩) d.size cap, .int .i64 a, .int .i64 (d.size : Nat), .func (.func g) #[] #[]] w fun e w' => e = .returned (.tuple #[]) ∧ ∃ n os, w' = sortWorldK enc 3 w b 0 n (insertionSort (ltOf cf) d a d.size) os
set_option maxRecDepth 100000 in
theorem stable_small (enc : α → List Value) (cf : α → α → Int) (g : Nat) (b cap : Nat) (d : Array α) (w : World) (hn : d.size < 20) (hi : InsAt enc cf g b cap d w) :
    Calls Try.prog 78 #[.slice (some ⟨b, 0, none⟩) d.size cap, .int .i64 (d.size : Nat), .func (.func g) #[] #[]] w fun e w' => e = .returned (.tuple #[]) ∧ ∃ n os, w' = sortWorldK enc 3 w b 0 n (insertionSort (ltOf cf) d 0 d.size) os := by
  have h0 : Calls Try.prog 67 #[.slice (some ⟨b, 0, none⟩) d.size cap, .int .i64 0, .int .i64 (d.size : Nat), .func (.func g) #[] #[]] w fun e w' => e = .returned (.tuple #[]) ∧ ∃ n os, w' = sortWorldK enc 3 w b 0 n (insertionSort (ltOf cf) d 0 d.size) os := hi 0 (Nat.zero_le _)
  clear hi
  have hlt : ¬ (20 : Int) ≤ (d.size : Int) := by omega
  have hlt2 : ¬ (20 : Int) < (d.size : Int) := by omega
  go_enter Try.func78, Try.ntmps78
  go_wp2
  refine wp_loop_rounds 1 ?_
  rw [rounds_succ]
  go_wp2_with (go_at_call 67; refine h0.mono ?_; rintro e w' ⟨rfl, k, os, rfl⟩)
  refine wp_loop_rounds 1 ?_
  rw [rounds_succ]
  go_wp2
  go_end0
  exact ⟨rfl, k, os, rfl⟩
set_option maxRecDepth 100000 in
theorem stable_twenty (enc : α → List Value) (cf : α → α → Int) (g : Nat) (b cap : Nat) (d : Array α) (w : World)
    (h0 : Calls Try.prog 67 #[.slice (some ⟨b, 0, none⟩) 20 cap, .int .i64 0, .int .i64 20, .func (.func g) #[] #[]] w fun e w' => e = .returned (.tuple #[]) ∧ ∃ n os, w' = sortWorldK enc 3 w b 0 n d os)
    (h1 : ∀ n os, Calls Try.prog 67 #[.slice (some ⟨b, 0, none⟩) 20 cap, .int .i64 20, .int .i64 20, .func (.func g) #[] #[]] (sortWorldK enc 3 w b 0 n d os) fun e w' => e = .returned (.tuple #[]) ∧ ∃ n os, w' = sortWorldK enc 3 w b 0 n d os) :
    Calls Try.prog 78 #[.slice (some ⟨b, 0, none⟩) 20 cap, .int .i64 20, .func (.func g) #[] #[]] w fun e w' => e = .returned (.tuple #[]) ∧ ∃ n os, w' = sortWorldK enc 3 w b 0 n d os := by
  go_enter Try.func78, Try.ntmps78
  go_wp2
  refine wp_loop_rounds 2 ?_
  rw [rounds_succ]
  go_wp2_with (go_at_call 67; refine h0.mono ?_; rintro e w' ⟨rfl, k, os, rfl⟩)
  rw [rounds_succ]
  go_wp2_with (go_at_call 67; refine (h1 _ _).mono ?_; rintro e w' ⟨rfl, k, os, rfl⟩)
  refine wp_loop_rounds 1 ?_
  rw [rounds_succ]
  go_wp2
  go_end0
  exact ⟨rfl, _, _, rfl⟩
set_option maxRecDepth 100000 in
theorem stable_of (p : Option Addr) (n cap : Nat) (g : Nat) (w : World) (Q : Ending → World → Prop) (h : Calls Try.prog 78 #[.slice p n cap, .int .i64 (n : Nat), .func (.func g) #[] #[]] w fun e w' => e = .returned (.tuple #[]) ∧ Q (.returned (.tuple #[])) w') :
    Calls Try.prog 56 #[.slice p n cap, .func (.func g) #[] #[]] w fun e w' => e = .returned (.tuple #[]) ∧ Q (.returned (.tuple #[])) w' := by
  have H : Hid (Q = Q) := Lib.hid rfl
  go_enter Try.func56, Try.ntmps56
  go_wp2_with (go_at_call 78; refine h.mono ?_; rintro e w' ⟨rfl, hq⟩)
  go_end0
  exact ⟨rfl, hq⟩
end Go.Proofs.Ytkfkfihjdohjfaa
end
