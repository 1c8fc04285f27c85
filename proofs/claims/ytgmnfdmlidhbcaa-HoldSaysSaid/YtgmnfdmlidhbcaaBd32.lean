/- Parts of the proof, one behind the other: Hz, Hk. -/
import Derived.WalkKit
import Derived.ProofKit
import Derived.OpenShut
import Derived.ShutString
import Derived.WalkSpells
import Derived.WalkLawsBesides
import Derived.Handy
import Derived.Deep.QuietTactic
import Derived.BigQuiet
import Derived.Lib.Hide
import Derived.Lib.SmallJoins
import Derived.Deep.Slices
import Derived.Deep.Fields
import Derived.Deep.AppendLies
import Derived.ChangeSame
import Derived.Deep.RegionHeld3
import Derived.StillTailTactics
import Derived.Shelf.RegionOpenPlain
import Derived.Deep.RegionLaw
import Derived.Deep.LoopGhost
import Derived.Lib.Walk
import Derived.Lib.SliceRun
import Derived.Lib.AppendZeros
import Derived.Lib.AppendZerosOnto
import Derived.Lib.Overlaps
import Derived.Laws.Externs
import Derived.Laws.IdiomCopy
import Derived.Laws.NewBlocks
import Derived.Shelf.Abstract
import Derived.Maps.AppendAt
import Derived.Test.YtgmnfdmlidhbcaaBd28
import Derived.Test.YtgmnfdmlidhbcaaProg
section
/- slices.Delete at api.HoldLevel, in the library's own text. -/
namespace Go.Proofs.Ytgmnfdmlidhbcaa
open Go.ChangeShapes Go.WideShapes Go.ChangeAt Go.RowKit RowW
set_option maxHeartbeats 8000000
theorem ho_under : Try.prog.underlying 66 = some (.slice 57) := by kernel_rfl
theorem ho_size : (Try.prog.info? 57).map (·.size) = some 3 := by kernel_rfl
theorem ho_sizeOf : ∀ w, (Go.sizeOf 57).run Try.prog w = .ok 3 w := fun w => by kernel_rfl
theorem ho_zero : ∀ w, (zeroValue 57).run Try.prog w = .ok (.agg #[.string ⟨#[]⟩, .int .i64 0, .int .i64 0]) w := fun w => by kernel_rfl
set_option maxRecDepth 1000000 in
/-- One element is taken out: what is behind it moves to the left, the last place holds zero values. -/
theorem ho_delete (g n cap i : Nat) (cur : Array Value) (w : World) (hg : w.heap[g]? = some (.cells cur 57 (0, 0))) (hcs : cur.size = cap * 3) (hnc : n ≤ cap) (hm : cap ≤ 9223372036854775807) (hi : i < n) (h1 : ∀ v ∈ cur.toList.take (n * 3), v.oneCell' = true) :
    Calls Try.prog 37 #[.slice (some ⟨g, 0, none⟩) n cap, .int .i64 i, .int .i64 ((i : Int) + 1)] w fun e w' => e = .returned (.slice (some ⟨g, 0, none⟩) (n - 1) cap) ∧
      ∃ q, w' = ((w.drewN q).setCells g (i * 3) ((cur.toList.take (n * 3)).drop ((i + 1) * 3))).setCells g ((n - 1) * 3) [.string ⟨#[]⟩, .int .i64 0, .int .i64 0] := by
  obtain ⟨i0, hi0, hsz⟩ : ∃ i0, Try.prog.info? 57 = some i0 ∧ i0.size = 3 := by
    cases h : Try.prog.info? 57 with
    | none => have := ho_size; rw [h] at this; cases this
    | some i0 => have := ho_size; rw [h] at this; exact ⟨i0, rfl, by simpa using this⟩
  obtain ⟨news, hnews⟩ : ∃ news, news = (cur.toList.take (n * 3)).drop ((i + 1) * 3) := ⟨_, rfl⟩
  have hnk : n * 3 ≤ cap * 3 := Nat.mul_le_mul_right _ hnc
  have hlen : news.length = (n - (i + 1)) * 3 := by
    rw [hnews, List.length_drop, List.length_take, Array.length_toList, Nat.sub_mul]
    omega
  have hgd : w.drew.heap[g]? = some (.cells cur 57 (0, 0)) := hg
  have hget : ∀ (t : Nat) u, news[t]? = some u → w.drew.cell? ⟨g, (i + 1) * 3 + t, none⟩ = some u := fun t u hu => by
    rw [(cell_at hgd _).1]
    rw [hnews, List.getElem?_drop, List.getElem?_take] at hu
    split at hu
    · rwa [Array.getElem?_toList] at hu
    · cases hu
  obtain ⟨A, hA, hsrc⟩ : ∃ A : Addr, (if cap = i + 1 then some (⟨g, 0, none⟩ : Addr) else some ⟨g, (i + 1) * 3, none⟩) = some A ∧ Hid (∀ t u, news[t]? = some u → w.drew.cell? (A.add t) = some u) := by
    by_cases h : cap = i + 1
    · refine ⟨⟨g, 0, none⟩, by simp [h], fun t u hu => ?_⟩
      have h0 : news.length = 0 := by rw [hlen, show n - (i + 1) = 0 by omega, Nat.zero_mul]
      rw [List.length_eq_zero_iff.1 h0] at hu
      simp at hu
    · exact ⟨⟨g, (i + 1) * 3, none⟩, by simp [h], fun t u hu => by rw [Addr.add_lit]; exact hget t u hu⟩
  have s2 : Hid (∀ u ∈ news, u.oneCell' = true) := fun u hu => h1 u (by rw [hnews] at hu; exact List.mem_of_mem_drop hu)
  have hik : (i + 1) * 3 ≤ n * 3 := Nat.mul_le_mul_right _ (by omega)
  have s3 : Hid (∀ t, t < news.length → (w.drew.cell? ⟨g, 0 + i * 3 + t, none⟩).isSome = true ∧ w.drew.frozen? ⟨g, 0 + i * 3 + t, none⟩ = false) := fun t ht => by
    rw [hlen, Nat.sub_mul] at ht
    rw [Nat.zero_add]
    rw [Nat.add_mul] at hik ht
    refine ⟨?_, (cell_at hgd _).2⟩
    rw [(cell_at hgd _).1, Array.getElem?_eq_getElem (by rw [hcs]; omega)]
    rfl
  obtain ⟨W1, hW1⟩ : ∃ W1, W1 = w.drew.setCells g (0 + i * 3) news := ⟨_, rfl⟩
  have hg1 : W1.heap[g]? = some (.cells (ovl cur (0 + i * 3) news) 57 (0, 0)) := by rw [hW1]; exact heap_setCells _ _ _ _ hgd
  have hn1 : n - 1 + 1 = n := by omega
  have hcl : ∀ ty c, (Builtin.clear_ #[66] ty #[.slice (some ⟨g, (n - 1) * 3, none⟩) 1 c]).run Try.prog W1 = .ok (.tuple #[]) (W1.setCells g ((n - 1) * 3) [.string ⟨#[]⟩, .int .i64 0, .int .i64 0]) := fun ty c =>
    run_clear_1 W1 66 57 ty _ [.string ⟨#[]⟩, .int .i64 0, .int .i64 0] ho_under ho_zero (by kernel_rfl) (by simp [Value.oneCell']) g _ c
      (fun j hj => by
        rw [(cell_at hg1 _).1, Array.getElem?_eq_getElem (by
          rw [ovl_size, hcs]
          simp only [List.length_cons, List.length_nil] at hj
          have : (n - 1) * 3 + 3 ≤ cap * 3 := by
            have := Nat.mul_le_mul_right 3 (show n - 1 + 1 ≤ cap by omega)
            rw [Nat.add_mul] at this
            omega
          omega)]
        rfl)
      (fun j _ => (cell_at hg1 _).2)
  have hW : Hid (W1 = w.drew.setCells g (0 + i * 3) news) := hW1
  have X : Hid (news = (cur.toList.take (n * 3)).drop ((i + 1) * 3)) := hnews
  have s1 : Hid (news.length = (n - (i + 1)) * 3) := hlen
  have hic : i ≤ cap := by omega
  have hjc : i + 1 ≤ cap := by omega
  have hin : i ≤ n := by omega
  have hi1n : i + 1 ≤ n := by omega
  have hb1 : (0 : Int) ≤ (i : Int) + 1 := by omega
  have hb2 : (i : Int) + 1 ≤ (n : Int) := by omega
  have hb3 : ((i : Int) + 1).toNat = i + 1 := by omega
  have mixed : Try.prog.follows .mixedOrders = true := by kernel_rfl
  have he1 : n - (n - 1) = 1 := by omega
  have he2 : i + (n - (i + 1)) = n - 1 := by omega
  have he3 : n - 1 ≤ n := by omega
  have he4 : n - 1 ≤ cap := by omega
  have he5 : ¬ (cap = n - 1) := by omega
  clear hW1 hnews hg1 hget hlen hgd hik hnk hn1
  go_enter Try.func37, Try.ntmps37
  go_wp2_with fail
  go_region_law_o (refine step_append_room rfl (.tmp 22) (.tmp 25) 66 rfl 57 i0 3 ho_under hi0 hsz g 0 i cap (by simp [Act.eval, Act.put]) A (n - (i + 1)) (cap - (i + 1)) news (by simp [Act.eval, Act.put]) s1.out hsrc.out s2.out (by omega) s3.out ?_; rw [← hW.out])
  go_wp2
  go_ret
  refine ⟨rfl, 1, ?_⟩
  rw [hW.out, X.out, Nat.zero_add]
  rfl
end Go.Proofs.Ytgmnfdmlidhbcaa
end
section
/- slices.Clone of a slice of rows with no elements: a slice with no elements comes back. -/
namespace Go.Proofs.Ytgmnfdmlidhbcaa
open Go.ChangeShapes Go.WideShapes Go.ChangeAt Go.RowKit
set_option maxHeartbeats 4000000
theorem nil_eqlC (A : Option Addr) (n c : Nat) (w : World) : (binOp .eql 66 (.slice A n c) (.slice none 0 0)).run Try.prog w = .ok (.bool A.isNone) w := by
  have ht : Try.prog.underlying 66 = some (.slice 57) := by kernel_rfl
  have h1 : ∀ w d, (Op.equalIn (d + 1) 66 (.slice A n c) (.slice none 0 0)).run Try.prog w = .ok A.isNone w := fun w d => by cases A <;> simp [Op.equalIn, run_underlying ht]
  have h2 : ∀ w, (Op.equal 66 (.slice A n c) (.slice none 0 0)).run Try.prog w = .ok A.isNone w := fun w => h1 w 9999
  simp [binOp, h2]
set_option maxRecDepth 100000 in
theorem cloneC_none (c : Nat) (w : World) : Calls Try.prog 38 #[.slice none 0 c] w fun e w' => e = .returned (.slice none 0 0) ∧ w' = w := by
  go_enter Try.func38, Try.ntmps38
  go_wp2
  rw [nil_eqlC]
  go_wp2
  go_ret
  exact ⟨rfl, rfl⟩
set_option maxRecDepth 100000 in
theorem cloneC_zero (a : Addr) (c : Nat) (w : World) : Calls Try.prog 38 #[.slice (some a) 0 c] w fun e w' => ∃ A, e = .returned (.slice A 0 0) ∧ Below w.heap.size w w' ∧ w.drawn ≤ w'.drawn := by
  go_enter Try.func38, Try.ntmps38
  go_wp2
  rw [nil_eqlC]
  go_wp2
  go_ret
  exact ⟨_, rfl, Below.alloc (Below.refl _ _) (Nat.le_refl _) _, Nat.le_refl _⟩
end Go.Proofs.Ytgmnfdmlidhbcaa
end
