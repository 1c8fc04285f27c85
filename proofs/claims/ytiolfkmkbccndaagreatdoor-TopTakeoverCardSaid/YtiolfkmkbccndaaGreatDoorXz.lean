/- slices.Delete and slices.Insert at api.SnapshotRow, in the library's own text. -/
import Derived.WalkKit
import Derived.ProofKit
import Derived.OpenShut
import Derived.ShutString
import Derived.WalkSpells
import Derived.WalkLawsBesides
import Derived.Handy
import Derived.Deep.QuietTactic
import Derived.BigQuiet
import Derived.Lib.Hide
import Derived.Lib.SmallJoins
import Derived.Deep.Slices
import Derived.Deep.Fields
import Derived.Deep.AppendLies
import Derived.ChangeSame
import Derived.Deep.RegionHeld3
import Derived.StillTailTactics
import Derived.Shelf.RegionOpenPlain
import Derived.Deep.RegionLaw
import Derived.Deep.LoopGhost
import Derived.Lib.Walk
import Derived.Lib.SliceRun
import Derived.Lib.AppendZeros
import Derived.Lib.AppendZerosOnto
import Derived.Lib.Overlaps
import Derived.Laws.Externs
import Derived.Laws.IdiomCopy
import Derived.Laws.NewBlocks
import Derived.Shelf.Abstract
import Derived.Maps.AppendAt
import Derived.Test.YtiolfkmkbccndaaGreatDoorBd29
import Derived.Test.YtiolfkmkbccndaaGreatDoorProg
namespace Go.Proofs.YtiolfkmkbccndaaGreatDoor
open Go.ChangeShapes Go.WideShapes Go.ChangeAt Go.RowKit RowW
set_option maxHeartbeats 8000000
theorem row_under : Tryz.prog.underlying 26 = some (.slice 56) := by kernel_rfl
theorem row_size : (Tryz.prog.info? 56).map (·.size) = some 2 := by kernel_rfl
theorem row_sizeOf : ∀ w, (Go.sizeOf 56).run Tryz.prog w = .ok 2 w := fun w => by kernel_rfl
theorem row_zero : ∀ w, (zeroValue 56).run Tryz.prog w = .ok (.agg #[.string ⟨#[]⟩, .string ⟨#[]⟩]) w := fun w => by kernel_rfl
set_option maxRecDepth 1000000 in
/-- One element is taken out: what is behind it moves to the left, the last place holds zero values. -/
theorem row_delete (g n cap i : Nat) (cur : Array Value) (w : World) (hg : w.heap[g]? = some (.cells cur 56 (0, 0))) (hcs : cur.size = cap * 2) (hnc : n ≤ cap) (hm : cap ≤ 9223372036854775807) (hi : i < n) (h1 : ∀ v ∈ cur.toList.take (n * 2), v.oneCell' = true) :
    Calls Tryz.prog 46 #[.slice (some ⟨g, 0, none⟩) n cap, .int .i64 i, .int .i64 ((i : Int) + 1)] w fun e w' => e = .returned (.slice (some ⟨g, 0, none⟩) (n - 1) cap) ∧
      ∃ q, w' = ((w.drewN q).setCells g (i * 2) ((cur.toList.take (n * 2)).drop ((i + 1) * 2))).setCells g ((n - 1) * 2) [.string ⟨#[]⟩, .string ⟨#[]⟩] := by
  obtain ⟨i0, hi0, hsz⟩ : ∃ i0, Tryz.prog.info? 56 = some i0 ∧ i0.size = 2 := by
    cases h : Tryz.prog.info? 56 with
    | none => have := row_size; rw [h] at this; cases this
    | some i0 => have := row_size; rw [h] at this; exact ⟨i0, rfl, by simpa using this⟩
  obtain ⟨news, hnews⟩ : ∃ news, news = (cur.toList.take (n * 2)).drop ((i + 1) * 2) := ⟨_, rfl⟩
  have hnk : n * 2 ≤ cap * 2 := Nat.mul_le_mul_right _ hnc
  have hlen : news.length = (n - (i + 1)) * 2 := by
    rw [hnews, List.length_drop, List.length_take, Array.length_toList, Nat.sub_mul]
    omega
  have hgd : w.drew.heap[g]? = some (.cells cur 56 (0, 0)) := hg
  have hget : ∀ (t : Nat) u, news[t]? = some u → w.drew.cell? ⟨g, (i + 1) * 2 + t, none⟩ = some u := fun t u hu => by
    rw [(cell_at hgd _).1]
    rw [hnews, List.getElem?_drop, List.getElem?_take] at hu
    split at hu
    · rwa [Array.getElem?_toList] at hu
    · cases hu
  obtain ⟨A, hA, hsrc⟩ : ∃ A : Addr, (if cap = i + 1 then some (⟨g, 0, none⟩ : Addr) else some ⟨g, (i + 1) * 2, none⟩) = some A ∧ Hid (∀ t u, news[t]? = some u → w.drew.cell? (A.add t) = some u) := by
    by_cases h : cap = i + 1
    · refine ⟨⟨g, 0, none⟩, by simp [h], fun t u hu => ?_⟩
      have h0 : news.length = 0 := by rw [hlen, show n - (i + 1) = 0 by omega, Nat.zero_mul]
      rw [List.length_eq_zero_iff.1 h0] at hu
      simp at hu
    · exact ⟨⟨g, (i + 1) * 2, none⟩, by simp [h], fun t u hu => by rw [Addr.add_lit]; exact hget t u hu⟩
  have s2 : Hid (∀ u ∈ news, u.oneCell' = true) := fun u hu => h1 u (by rw [hnews] at hu; exact List.mem_of_mem_drop hu)
  have hik : (i + 1) * 2 ≤ n * 2 := Nat.mul_le_mul_right _ (by omega)
  have s3 : Hid (∀ t, t < news.length → (w.drew.cell? ⟨g, 0 + i * 2 + t, none⟩).isSome = true ∧ w.drew.frozen? ⟨g, 0 + i * 2 + t, none⟩ = false) := fun t ht => by
    rw [hlen, Nat.sub_mul] at ht
    rw [Nat.zero_add]
    rw [Nat.add_mul] at hik ht
    refine ⟨?_, (cell_at hgd _).2⟩
    rw [(cell_at hgd _).1, Array.getElem?_eq_getElem (by rw [hcs]; omega)]
    rfl
  obtain ⟨W1, hW1⟩ : ∃ W1, W1 = w.drew.setCells g (0 + i * 2) news := ⟨_, rfl⟩
  have hg1 : W1.heap[g]? = some (.cells (ovl cur (0 + i * 2) news) 56 (0, 0)) := by rw [hW1]; exact heap_setCells _ _ _ _ hgd
  have hn1 : n - 1 + 1 = n := by omega
  have hcl : ∀ ty c, (Builtin.clear_ #[26] ty #[.slice (some ⟨g, (n - 1) * 2, none⟩) 1 c]).run Tryz.prog W1 = .ok (.tuple #[]) (W1.setCells g ((n - 1) * 2) [.string ⟨#[]⟩, .string ⟨#[]⟩]) := fun ty c =>
    run_clear_1 W1 26 56 ty _ [.string ⟨#[]⟩, .string ⟨#[]⟩] row_under row_zero (by kernel_rfl) (by simp [Value.oneCell']) g _ c
      (fun j hj => by
        rw [(cell_at hg1 _).1, Array.getElem?_eq_getElem (by
          rw [ovl_size, hcs]
          simp only [List.length_cons, List.length_nil] at hj
          have : (n - 1) * 2 + 2 ≤ cap * 2 := by
            have := Nat.mul_le_mul_right 2 (show n - 1 + 1 ≤ cap by omega)
            rw [Nat.add_mul] at this
            omega
          omega)]
        rfl)
      (fun j _ => (cell_at hg1 _).2)
  have hW : Hid (W1 = w.drew.setCells g (0 + i * 2) news) := hW1
  have X : Hid (news = (cur.toList.take (n * 2)).drop ((i + 1) * 2)) := hnews
  have s1 : Hid (news.length = (n - (i + 1)) * 2) := hlen
  have hic : i ≤ cap := by omega
  have hjc : i + 1 ≤ cap := by omega
  have hin : i ≤ n := by omega
  have hi1n : i + 1 ≤ n := by omega
  have hb1 : (0 : Int) ≤ (i : Int) + 1 := by omega
  have hb2 : (i : Int) + 1 ≤ (n : Int) := by omega
  have hb3 : ((i : Int) + 1).toNat = i + 1 := by omega
  have mixed : Tryz.prog.follows .mixedOrders = true := by kernel_rfl
  have he1 : n - (n - 1) = 1 := by omega
  have he2 : i + (n - (i + 1)) = n - 1 := by omega
  have he3 : n - 1 ≤ n := by omega
  have he4 : n - 1 ≤ cap := by omega
  have he5 : ¬ (cap = n - 1) := by omega
  clear hW1 hnews hg1 hget hlen hgd hik hnk hn1
  go_enter Tryz.func46, Tryz.ntmps46
  go_wp2_with fail
  go_region_law_o (refine step_append_room rfl (.tmp 22) (.tmp 25) 26 rfl 56 i0 2 row_under hi0 hsz g 0 i cap (by simp [Act.eval, Act.put]) A (n - (i + 1)) (cap - (i + 1)) news (by simp [Act.eval, Act.put]) s1.out hsrc.out s2.out (by omega) s3.out ?_; rw [← hW.out])
  go_wp2
  go_ret
  refine ⟨rfl, 1, ?_⟩
  rw [hW.out, X.out, Nat.zero_add]
  rfl
set_option maxRecDepth 1000000 in
/-- One element is put in: there is room, ahead of others: in place. -/
theorem row_ins_shift (g n c i vb vc : Nat) (cur : Array Value) (vs : List Value) (tv : TypeId) (w : World) (hg : w.heap[g]? = some (.cells cur 56 (0, 0))) (hcs : cur.size = c * 2) (hroom : n + 1 ≤ c) (hc63 : c ≤ 9223372036854775807) (hi : i < n) (hne : vb ≠ g)
    (hv : w.heap[vb]? = some (.cells vs.toArray tv (0, 0))) (hvl : vs.length = 2) (h1c : ∀ v ∈ cur.toList.take (n * 2), v.oneCell' = true) (h1v : ∀ v ∈ vs, v.oneCell' = true) :
    Calls Tryz.prog 56 #[.slice (some ⟨g, 0, none⟩) n c, .int .i64 i, .slice (some ⟨vb, 0, none⟩) 1 vc] w fun e w' => e = .returned (.slice (some ⟨g, 0, none⟩) (n + 1) c) ∧
      w' = (w.drew.setCells g ((i + 1) * 2) ((cur.toList.take (n * 2)).drop (i * 2))).setCells g (i * 2) vs := by
  have hz2 : ¬ ((i : Int) = (n : Int)) := by omega
  have hik : i * 2 ≤ n * 2 := Nat.mul_le_mul_right _ (by omega)
  have hck : (n + 1) * 2 ≤ c * 2 := Nat.mul_le_mul_right _ hroom
  have hck' := hck
  rw [Nat.add_mul] at hck'
  have hik1 : (i + 1) * 2 ≤ n * 2 := Nat.mul_le_mul_right _ (by omega)
  have hik1' := hik1
  rw [Nat.add_mul] at hik1'
  obtain ⟨cs, hcs0⟩ : ∃ cs, cs = (cur.toList.take (n * 2)).drop (i * 2) := ⟨_, rfl⟩
  have hcl : cs.length = (n - i) * 2 := by
    rw [hcs0, List.length_drop, List.length_take, Array.length_toList, Nat.sub_mul]
    omega
  have hget : ∀ (j : Nat) u, cs[j]? = some u → w.cell? ⟨g, i * 2 + j, none⟩ = some u := fun j u hu => by
    rw [(cell_at hg _).1]
    rw [hcs0, List.getElem?_drop, List.getElem?_take] at hu
    split at hu
    · rwa [Array.getElem?_toList] at hu
    · cases hu
  have h1s : ∀ v ∈ cs, v.oneCell' = true := fun v hv => h1c v (by rw [hcs0] at hv; exact List.mem_of_mem_drop hv)
  have hsa : w.shape? vb = some (tv, 2) := by simp [World.shape?, hv, hvl]
  have hsb : w.shape? g = some (56, c * 2) := by simp [World.shape?, hg, hcs]
  have hov : ∀ lb cb, (callFunc 73 #[.slice (some ⟨vb, 0, none⟩) 1 vc, .slice (some ⟨g, (i + 1) * 2, none⟩) lb cb]).run Tryz.prog w = .ok (.value (.bool false)) w := fun lb cb => by
    rw [run_callFunc_extern Tryz.func73 (by kernel_rfl) (by kernel_rfl) (by kernel_rfl) (e := Extern.SlicesOverlaps.overlaps #[26, 26] #[4]) (by kernel_rfl),
      Lib.run_overlaps_apart w 26 4 56 row_under 2 row_sizeOf ⟨vb, 0, none⟩ ⟨g, (i + 1) * 2, none⟩ 1 vc lb cb hne tv 56 2 (c * 2) hsa hsb (by omega) (cell_at hv _).2 (by simp [World.frozen?, hv])]
    rfl
  have mixed : Tryz.prog.follows .mixedOrders = true := by kernel_rfl
  have hw1 : IntKind.i64.wrap ((i : Int) + 1) = (i : Int) + 1 := by rw [IntKind.wrap_i64]; omega
  have hw2 : IntKind.i64.wrap ((n : Int) + 1) = (n : Int) + 1 := by rw [IntKind.wrap_i64]; omega
  have hb1 : (0 : Int) ≤ (i : Int) + 1 := by omega
  have hb0 : (0 : Int) ≤ (n : Int) + 1 := by omega
  have hb9 : (n : Int) + 1 ≤ (c : Int) := by omega
  have hb8 : ¬ ((c : Int) < (n : Int) + 1) := by omega
  have hin : i ≤ n := by omega
  have htn : ((i : Int) + 1).toNat = i + 1 := by omega
  have htm : ((n : Int) + 1).toNat = n + 1 := by omega
  have hb2 : ¬ (c = i + 1) := by omega
  have hb3 : (i : Int) ≤ (n : Int) + 1 := by omega
  have hb5 : (i : Int) + 1 ≤ (n : Int) + 1 := by omega
  have hb4 : ¬ (c = i) := by omega
  have hb6 : i ≤ n + 1 := by omega
  have hb7 : i + 1 ≤ n + 1 := by omega
  have hgd : w.drew.heap[g]? = some (.cells cur 56 (0, 0)) := hg
  have some1 : ∀ (W : World) (cu : Array Value), W.heap[g]? = some (.cells cu 56 (0, 0)) → cu.size = c * 2 → ∀ j, j < (n + 1) * 2 → (W.cell? ⟨g, j, none⟩).isSome = true := fun W cu h1 h2 j hj => by
    rw [(cell_at h1 _).1, Array.getElem?_eq_getElem (by omega)]
    rfl
  have hnk : (n + 1) * 2 = n * 2 + 2 := by rw [Nat.add_mul, Nat.one_mul]
  have hcp1 : ∀ ty dc sc, (Builtin.copy_ #[26, 26] ty #[.slice (some ⟨g, (i + 1) * 2, none⟩) (n - i) dc, .slice (some ⟨g, i * 2, none⟩) (n + 1 - i) sc]).run Tryz.prog w.drew = .ok (goInt (Nat.min (n + 1 - i) (n - i))) (w.drew.setCells g ((i + 1) * 2) cs) := fun ty dc sc =>
    run_copy_k w.drew _ _ ty 56 g ((i + 1) * 2) (n - i) dc ⟨g, i * 2, none⟩ (n + 1 - i) sc 2 cs row_under row_size (by rw [hcl]; congr 1; simp only [Nat.min_def]; split <;> omega)
      (fun j v hj => by rw [Addr.add_lit]; exact hget j v hj)
      (fun j hj => some1 _ _ hgd hcs _ (by rw [hcl, Nat.sub_mul] at hj; rw [Nat.add_mul]; omega)) (fun j hj => (cell_at hgd _).2) h1s
  obtain ⟨W1, hW1⟩ : ∃ W1, W1 = w.drew.setCells g ((i + 1) * 2) cs := ⟨_, rfl⟩
  have hg1 : W1.heap[g]? = some (.cells (ovl cur ((i + 1) * 2) cs) 56 (0, 0)) := by rw [hW1]; exact heap_setCells _ _ _ _ hgd
  have hv1 : W1.heap[vb]? = some (.cells vs.toArray tv (0, 0)) := by rw [hW1, heap_setCells_ne hne]; exact hv
  have hcp2 : ∀ (W : World), (∀ x, W.cell? x = W1.cell? x) → (∀ x, W.frozen? x = W1.frozen? x) → ∀ ty dc, (Builtin.copy_ #[26, 26] ty #[.slice (some ⟨g, i * 2, none⟩) (n + 1 - i) dc, .slice (some ⟨vb, 0, none⟩) 1 vc]).run Tryz.prog W = .ok (goInt (Nat.min 1 (n + 1 - i))) (W.setCells g (i * 2) vs) := fun W hWc hWf ty dc =>
    run_copy_k W _ _ ty 56 g (i * 2) (n + 1 - i) dc ⟨vb, 0, none⟩ 1 vc 2 vs row_under row_size (by rw [hvl, show Nat.min 1 (n + 1 - i) = 1 by simp only [Nat.min_def]; split <;> omega])
      (fun j v hj => by
        rw [Addr.add_lit, hWc, (cell_at hv1 _).1, Nat.zero_add]
        simpa using hj)
      (fun j hj => by rw [hWc]; exact some1 _ _ hg1 (by rw [ovl_size, hcs]) _ (by rw [hvl] at hj; omega)) (fun j hj => by rw [hWf]; exact (cell_at hg1 _).2) h1v
  have X : Hid (cs = (cur.toList.take (n * 2)).drop (i * 2)) := hcs0
  have Y : Hid (W1 = w.drew.setCells g ((i + 1) * 2) cs) := hW1
  rw [← hW1] at hcp1
  clear some1 hget hcl hg1 hv1 hgd hsa hsb hik hck hck' hik1 hik1' hcs0 hW1 hnk
  go_enter Tryz.func56, Tryz.ntmps56
  go_wp2_with (simp only [hov])
  go_region_law_o (refine step_copy_runK rfl _ _ 26 26 rfl _ _ (by simp [Act.eval, Act.put]) (by simp [Act.eval, Act.put]) (hcp1 _ _ _) ?_)
  go_wp2_with (at_builtin; refine wpList_copy_runK _ rfl _ _ 26 26 rfl _ _ rfl rfl (hcp2 _ (fun _ => rfl) (fun _ => rfl) _ _) ?_)
  go_ret
  first | exact ⟨rfl, rfl⟩ | exact ⟨rfl, by rw [Y.out, X.out]⟩
set_option maxRecDepth 1000000 in
/-- .. at the end, or into nil: the library's append. -/
theorem row_ins_end (v : Value) (n vb vc : Nat) (xs vs : List Value) (tv : TypeId) (w : World) (hown : w.ownsRow 0 56 2 v n xs) (hn : n + 1 ≤ 1000000)
    (hv : w.heap[vb]? = some (.cells vs.toArray tv (0, 0))) (hvl : vs.length = 2) (h1v : ∀ v ∈ vs, v.oneCell' = true) :
    Calls Tryz.prog 56 #[v, .int .i64 n, .slice (some ⟨vb, 0, none⟩) 1 vc] w fun e w' => ∃ v', e = .returned v' ∧ w'.ownsRow 0 56 2 v' (n + 1) (xs ++ vs) ∧ w.grownBy w' v.ownBlock ∧ w.drawn ≤ w'.drawn ∧ (v'.ownBlock = v.ownBlock ∨ v'.ownBlock = some w.heap.size) := by
  obtain ⟨i0, hi0, hsz⟩ : ∃ i0, Tryz.prog.info? 56 = some i0 ∧ i0.size = 2 := by
    cases h : Tryz.prog.info? 56 with
    | none => have := row_size; rw [h] at this; cases this
    | some i0 => have := row_size; rw [h] at this; exact ⟨i0, rfl, by simpa using this⟩
  have hz0 : i0.zero = some (.agg #[.string ⟨#[]⟩, .string ⟨#[]⟩]) := by
    have h : (Tryz.prog.info? 56).bind (·.zero) = some (.agg #[.string ⟨#[]⟩, .string ⟨#[]⟩]) := by kernel_rfl
    rw [hi0] at h
    exact h
  have hby : i0.bytes ≤ 100000 := by
    have h : (Tryz.prog.info? 56).map (fun i => decide (i.bytes ≤ 100000)) = some true := by kernel_rfl
    rw [hi0] at h
    simpa using h
  obtain ⟨v', w', r1, r2, r3, r4, r5⟩ := run_append_own_at w 0 26 26 56 i0 (.agg #[.string ⟨#[]⟩, .string ⟨#[]⟩]) 2 i0.bytes row_under hi0 hz0 hsz rfl (by kernel_rfl) (by decide) v n xs hown ⟨vb, 0, none⟩ 1 vc vs (by rw [hvl]) (fun j u hu => by
      rw [Addr.add_lit, (cell_at hv _).1, Nat.zero_add]
      simpa using hu) h1v (by unfold maxLen; omega) (Nat.le_trans (Nat.mul_le_mul hn hby) (by omega)) (Nat.zero_le _)
  have hrun : ∀ ty, (Builtin.append_ #[26, 26] ty #[v, .slice (some ⟨vb, 0, none⟩) 1 vc]).run Tryz.prog w = .ok v' w' := fun ty => r1
  have hd := run_drawn' r1
  have mixed : Tryz.prog.follows .mixedOrders = true := by kernel_rfl
  clear r1
  rcases hown.2 with ⟨rfl, rfl⟩ | ⟨g, cap, cur, rfl, _, hg, hnc, hcm, _⟩
  · go_enter Tryz.func56, Tryz.ntmps56
    go_wp2_with (at_builtin; refine Lib.wpList_append_run _ rfl _ _ _ _ rfl _ _ rfl rfl _ _ (hrun _) ?_)
    go_ret
    exact ⟨_, rfl, r2, r3, hd, r5⟩
  · clear hown hi0 hg
    have hn0 : (0 : Int) ≤ (n : Int) := by omega
    go_enter Tryz.func56, Tryz.ntmps56
    go_wp2_with (at_builtin; refine Lib.wpList_append_run _ rfl _ _ _ _ rfl _ _ rfl rfl _ _ (hrun _) ?_)
    all_goals (go_ret; exact ⟨_, rfl, r2, r3, hd, r5⟩)
set_option maxRecDepth 1000000 in
/-- .. there is no room, ahead of others: a new row. -/
theorem row_ins_grow (g n c i vb vc : Nat) (cur : Array Value) (vs : List Value) (tv : TypeId) (w : World) (hg : w.heap[g]? = some (.cells cur 56 (0, 0))) (hcs : cur.size = c * 2) (hnc : n ≤ c) (hroom : c < n + 1) (hn : n + 1 ≤ 1000000) (hi : i < n)
    (hv : w.heap[vb]? = some (.cells vs.toArray tv (0, 0))) (hvl : vs.length = 2) (h1c : ∀ v ∈ cur.toList.take (n * 2), v.oneCell' = true) (h1v : ∀ v ∈ vs, v.oneCell' = true) :
    Calls Tryz.prog 56 #[.slice (some ⟨g, 0, none⟩) n c, .int .i64 i, .slice (some ⟨vb, 0, none⟩) 1 vc] w fun e w' => ∃ (G : Nat) (ROW : Array Value), e = .returned (.slice (some ⟨w.heap.size, 0, none⟩) (n + 1) G) ∧ n + 1 ≤ G ∧ G ≤ maxLen ∧ ROW.size = G * 2 ∧ ROW.toList.take (i * 2) = (cur.toList.take (n * 2)).take (i * 2) ∧
      w' = (((w.alloc (.cells ROW 56)).drew.setCells w.heap.size (i * 2) vs).drew).setCells w.heap.size ((i + 1) * 2) ((cur.toList.take (n * 2)).drop (i * 2)) := by
  obtain ⟨i0, hi0, hzs⟩ : ∃ i0, Tryz.prog.info? 56 = some i0 ∧ i0.size = 2 := by
    cases h : Tryz.prog.info? 56 with
    | none => have := row_size; rw [h] at this; cases this
    | some i0 => have := row_size; rw [h] at this; exact ⟨i0, rfl, by simpa using this⟩
  have hz0 : i0.zero = some (.agg #[.string ⟨#[]⟩, .string ⟨#[]⟩]) := by
    have h : (Tryz.prog.info? 56).bind (·.zero) = some (.agg #[.string ⟨#[]⟩, .string ⟨#[]⟩]) := by kernel_rfl
    rw [hi0] at h
    exact h
  have hby : i0.bytes ≤ 100000 := by
    have h : (Tryz.prog.info? 56).map (fun i => decide (i.bytes ≤ 100000)) = some true := by kernel_rfl
    rw [hi0] at h
    simpa using h
  have hz2 : ¬ ((i : Int) = (n : Int)) := by omega
  have hz3 : (c : Int) < (n : Int) + 1 := by omega
  have hcn : c = n := by omega
  have hbw : g < w.heap.size := (Array.getElem?_eq_some_iff.1 hg).1
  have hvw : vb < w.heap.size := (Array.getElem?_eq_some_iff.1 hv).1
  have hik : i * 2 ≤ n * 2 := Nat.mul_le_mul_right _ (by omega)
  have hcl0 : (cur.toList.take (n * 2)).length = n * 2 := by rw [List.length_take, Array.length_toList, hcs, hcn, Nat.min_self]
  have hget0 : ∀ (j : Nat) u, (cur.toList.take (n * 2))[j]? = some u → w.cell? ⟨g, j, none⟩ = some u := fun j u hu => by
    rw [(cell_at hg _).1]
    rw [List.getElem?_take] at hu
    split at hu
    · rwa [Array.getElem?_toList] at hu
    · cases hu
  obtain ⟨xs, hxs⟩ : ∃ xs, xs = cur.toList.take (n * 2) := ⟨_, rfl⟩
  rw [← hxs] at hcl0 hget0 h1c ⊢
  have hkk : (n : Int) + 1 - (i : Int) = ((n + 1 - i : Nat) : Int) := by omega
  have hii : i + (n + 1 - i) = n + 1 := by omega
  have hold : (Builtin.firstCells i0.size i (.slice (some ⟨g, 0, none⟩) i c)).run Tryz.prog w.drew = .ok (xs.take (i * 2)).toArray w.drew := by
    rw [hzs]
    exact run_firstCells_some w.drew 2 i ⟨g, 0, none⟩ i c (xs.take (i * 2)) (by rw [List.length_take]; omega) (fun j v hj => by
      rw [Addr.add_lit, Nat.zero_add]
      rw [List.getElem?_take] at hj
      split at hj
      · exact hget0 j v hj
      · cases hj)
  have hfit : Builtin.nextslicecap (n + 1) c * i0.bytes ≤ 281474976710656 := growslice_fits hroom (Nat.le_trans (Nat.mul_le_mul hn hby) (by omega))
  have hrz : ∀ ty, (Builtin.append_ #[26, 3] ty #[.slice (some ⟨g, 0, none⟩) i c, .int .i64 ((n : Int) + 1 - (i : Int))]).run Tryz.prog w =
      .ok (.slice (some ⟨w.heap.size, 0, none⟩) (n + 1) (grownCap w (n + 1) c 56)) (w.drew.alloc (.cells ((xs.take (i * 2)).toArray ++ Builtin.zeroCells (Value.agg #[.string ⟨#[]⟩, .string ⟨#[]⟩]).cells (n + 1 - i) ++ Builtin.zeroCells (Value.agg #[.string ⟨#[]⟩, .string ⟨#[]⟩]).cells (grownCap w (n + 1) c 56 - (n + 1))) 56)) := fun ty => by
    have h := Lib.run_append_grow_zeros w 26 3 ty 56 i0 _ .i64 .i64 row_under Tryz.underlying3 hi0 hz0 (some ⟨g, 0, none⟩) i c (xs.take (i * 2)) hold (n + 1 - i) (by omega) (by omega) (by omega) (by omega) (Nat.le_trans (Nat.mul_le_mul (show n + 1 - i ≤ 1000000 by omega) hby) (by omega)) (by rw [hii]; exact hfit)
    rw [hii] at h
    rw [hkk]
    exact h
  obtain ⟨G, hG⟩ : ∃ G, G = grownCap w (n + 1) c 56 := ⟨_, rfl⟩
  have hGn : n + 1 ≤ G := by rw [hG]; exact grownCap_ge w _ _ _
  have hGm : G ≤ maxLen := by rw [hG]; exact grownCap_le_maxLen w (n + 1) c 56 (by unfold maxLen; omega)
  have hG63 : G ≤ 9223372036854775807 := by unfold maxLen at hGm; omega
  obtain ⟨ROW, hROW⟩ : ∃ ROW : Array Value, ROW = (xs.take (i * 2)).toArray ++ Builtin.zeroCells (Value.agg #[.string ⟨#[]⟩, .string ⟨#[]⟩]).cells (n + 1 - i) ++ Builtin.zeroCells (Value.agg #[.string ⟨#[]⟩, .string ⟨#[]⟩]).cells (G - (n + 1)) := ⟨_, rfl⟩
  rw [← hG] at hrz
  rw [← hROW] at hrz
  have hzc : ∀ m, (Builtin.zeroCells (Value.agg #[.string ⟨#[]⟩, .string ⟨#[]⟩]).cells m).size = m * 2 := fun m => by simp [Builtin.zeroCells, Value.cells]
  have hRl : ROW.size = G * 2 := by
    rw [hROW, Array.size_append, Array.size_append, List.size_toArray, List.length_take, hzc, hzc, hcl0, Nat.min_eq_left hik, ← Nat.add_mul, ← Nat.add_mul]
    congr 1
    omega
  have hRt : ROW.toList.take (i * 2) = xs.take (i * 2) := by
    rw [hROW, Array.toList_append, Array.toList_append, List.append_assoc, List.take_append_of_le_length (by rw [List.length_take]; omega)]
    exact List.take_of_length_le (by rw [List.length_take]; omega)
  obtain ⟨W1, hW1⟩ : ∃ W1, W1 = w.drew.alloc (.cells ROW 56) := ⟨_, rfl⟩
  rw [← hW1] at hrz
  have hN : ∀ j, j < (n + 1) * 2 → (W1.cell? ⟨w.heap.size, j, none⟩).isSome = true := fun j hj => by
    have := Nat.mul_le_mul_right 2 hGn
    rw [hW1, World.cell?_alloc_at (w := w.drew) ROW _ w.heap.size j rfl, Array.getElem?_eq_getElem (by omega)]; rfl
  have hNf : ∀ j, W1.frozen? ⟨w.heap.size, j, none⟩ = false := fun j => by rw [hW1]; exact World.frozen?_alloc_at (w := w.drew) ROW _ w.heap.size j rfl
  have hOb : ∀ j v, w.cell? ⟨g, j, none⟩ = some v → W1.cell? ⟨g, j, none⟩ = some v := fun j v h => by rw [hW1, World.cell?_alloc_past (w := w.drew) _ g j hbw]; exact h
  have hOv : ∀ j v, w.cell? ⟨vb, j, none⟩ = some v → W1.cell? ⟨vb, j, none⟩ = some v := fun j v h => by rw [hW1, World.cell?_alloc_past (w := w.drew) _ vb j hvw]; exact h
  have hnk : (n + 1) * 2 = n * 2 + 2 := by rw [Nat.add_mul, Nat.one_mul]
  have hik1 : (i + 1) * 2 = i * 2 + 2 := by rw [Nat.add_mul, Nat.one_mul]
  have hcpA : ∀ (W : World), (∀ x, W.cell? x = W1.cell? x) → (∀ x, W.frozen? x = W1.frozen? x) → ∀ ty dc, (Builtin.copy_ #[26, 26] ty #[.slice (some ⟨w.heap.size, i * 2, none⟩) (n + 1 - i) dc, .slice (some ⟨vb, 0, none⟩) 1 vc]).run Tryz.prog W = .ok (goInt (Nat.min 1 (n + 1 - i))) (W.setCells w.heap.size (i * 2) vs) := fun W hWc hWf ty dc =>
    run_copy_k W _ _ ty 56 w.heap.size (i * 2) (n + 1 - i) dc ⟨vb, 0, none⟩ 1 vc 2 vs row_under row_size (by rw [hvl, show Nat.min 1 (n + 1 - i) = 1 by simp only [Nat.min_def]; split <;> omega])
      (fun j v hj => by
        rw [Addr.add_lit, hWc]
        refine hOv _ v ?_
        rw [(cell_at hv _).1, Nat.zero_add]
        simpa using hj)
      (fun j hj => by rw [hWc]; exact hN _ (by rw [hvl] at hj; omega)) (fun j hj => by rw [hWf]; exact hNf _) h1v
  have hGi : ¬ (G = i) := by omega
  have hGim : ¬ (G = i + 1) := by omega
  have hci : ¬ (c = i) := by omega
  have hbN : g ≠ w.heap.size := by omega
  have hdl : (xs.drop (i * 2)).length = (n - i) * 2 := by rw [List.length_drop, hcl0, Nat.sub_mul]
  have hNs : ∀ (W : World) j, (W.cell? ⟨w.heap.size, j, none⟩).isSome = true → ∀ (vs' : List Value) (o : Nat), (∀ t, t < vs'.length → (W.cell? ⟨w.heap.size, o + t, none⟩).isSome = true) → ((W.setCells w.heap.size o vs').cell? ⟨w.heap.size, j, none⟩).isSome = true := fun W j hj vs' o ho => by
    by_cases hin : o ≤ j ∧ j < o + vs'.length
    · have := World.cell?_setCells_in w.heap.size vs' o W ho (j - o) (by omega)
      rw [show o + (j - o) = j by omega] at this
      rw [this]; rfl
    · rw [World.cell?_setCells_out w.heap.size vs' o W ⟨w.heap.size, j, none⟩ (fun _ _ => by show j < o ∨ o + vs'.length ≤ j; omega)]
      exact hj
  have hcpB : ∀ (W : World), (∀ x, W.cell? x = (W1.setCells w.heap.size (i * 2) vs).cell? x) → (∀ x, W.frozen? x = (W1.setCells w.heap.size (i * 2) vs).frozen? x) → ∀ ty dc sc, (Builtin.copy_ #[26, 26] ty #[.slice (some ⟨w.heap.size, (i + 1) * 2, none⟩) (n - i) dc, .slice (some ⟨g, i * 2, none⟩) (n - i) sc]).run Tryz.prog W = .ok (goInt (Nat.min (n - i) (n - i))) (W.setCells w.heap.size ((i + 1) * 2) (xs.drop (i * 2))) := fun W hWc hWf ty dc sc =>
    run_copy_k W _ _ ty 56 w.heap.size ((i + 1) * 2) (n - i) dc ⟨g, i * 2, none⟩ (n - i) sc 2 (xs.drop (i * 2)) row_under row_size (by rw [hdl, show Nat.min (n - i) (n - i) = n - i from Nat.min_self _])
      (fun j v hj => by
        rw [Addr.add_lit, hWc, World.cell?_setCells_out _ _ _ _ _ (fun h _ => absurd h hbN)]
        exact hOb _ v (hget0 _ v (by rwa [List.getElem?_drop] at hj)))
      (fun j hj => by
        rw [hWc]
        refine hNs _ _ (hN _ (by rw [hdl, Nat.sub_mul] at hj; omega)) vs _ fun t ht => hN _ (by rw [hvl] at ht; omega))
      (fun j hj => by rw [hWf, World.frozen?_setCells]; exact hNf _) (fun v hv => h1c v (List.mem_of_mem_drop hv))
  subst hW1
  have hE1 : ∀ x, ((w.alloc (.cells ROW 56)).drew).cell? x = (w.drew.alloc (.cells ROW 56)).cell? x := fun x => rfl
  have hE2 : ∀ x, ((w.alloc (.cells ROW 56)).drew).frozen? x = (w.drew.alloc (.cells ROW 56)).frozen? x := fun x => rfl
  have hF1 : ∀ x, (((w.alloc (.cells ROW 56)).drew.setCells w.heap.size (i * 2) vs).drew).cell? x = ((w.drew.alloc (.cells ROW 56)).setCells w.heap.size (i * 2) vs).cell? x := fun x => rfl
  have hF2 : ∀ x, (((w.alloc (.cells ROW 56)).drew.setCells w.heap.size (i * 2) vs).drew).frozen? x = ((w.drew.alloc (.cells ROW 56)).setCells w.heap.size (i * 2) vs).frozen? x := fun x => rfl
  have hw1 : IntKind.i64.wrap ((i : Int) + 1) = (i : Int) + 1 := by rw [IntKind.wrap_i64]; omega
  have hw2 : IntKind.i64.wrap ((n : Int) + 1) = (n : Int) + 1 := by rw [IntKind.wrap_i64]; omega
  have hw3 : IntKind.i64.wrap ((n : Int) + 1 - (i : Int)) = (n : Int) + 1 - (i : Int) := by rw [IntKind.wrap_i64]; omega
  have hb1 : (0 : Int) ≤ (i : Int) + 1 := by omega
  have hin : i ≤ n := by omega
  have htn : ((i : Int) + 1).toNat = i + 1 := by omega
  have hb3 : (i : Int) ≤ (n : Int) := by omega
  have hb4 : (i : Int) ≤ (n : Int) + 1 := by omega
  have hb5 : (i : Int) + 1 ≤ (n : Int) + 1 := by omega
  have hb6 : i ≤ n + 1 := by omega
  have hb7 : i + 1 ≤ n + 1 := by omega
  have hic : i ≤ c := by omega
  have mixed : Tryz.prog.follows .mixedOrders = true := by kernel_rfl
  have post : ∀ (G' : Nat) (ROW' : Array Value), G' = G → ROW' = ROW → Hid (n + 1 ≤ G' ∧ G' ≤ maxLen ∧ ROW'.size = G' * 2 ∧ ROW'.toList.take (i * 2) = xs.take (i * 2)) := fun _ _ e1 e2 => by
    subst e1
    subst e2
    exact ⟨hGn, hGm, hRl, hRt⟩
  have XX : Hid (xs = cur.toList.take (n * 2)) := hxs
  clear hxs
  clear hkk hii hold hROW hG hRl hRt hN hNf hOb hOv hNs hget0 hik hik1 hnk hdl hcl0 hi0 hg hv hzc hcn hfit hGn hGm
  go_enter Tryz.func56, Tryz.ntmps56
  go_wp2_with (first
    | (at_builtin; refine Lib.wpList_append_run _ rfl _ _ _ _ rfl _ _ rfl rfl _ _ (hrz _) ?_)
    | (at_builtin; refine wpList_copy_runK _ rfl _ _ 26 26 rfl _ _ rfl rfl (hcpA _ hE1 hE2 _ _) ?_)
    | (at_builtin; refine wpList_copy_runK _ rfl _ _ 26 26 rfl _ _ rfl rfl (hcpB _ (fun _ => rfl) (fun _ => rfl) _ _ _) ?_))
  go_region_law_o (refine step_copy_runK rfl _ _ 26 26 rfl (.slice (some ⟨w.heap.size, (i + 1) * 2, none⟩) (n - i) (G - (i + 1))) (.slice (some ⟨g, i * 2, none⟩) (n - i) (c - i)) (by simp [Act.eval, Act.put]) (by simp [Act.eval, Act.put]) (hcpB _ hF1 hF2 _ _ _) ?_)
  go_wp2
  go_ret
  obtain ⟨p1, p2, p3, p4⟩ := (post G ROW rfl rfl).out
  exact ⟨G, ROW, rfl, p1, p2, p3, by first | exact p4 | (rw [← XX.out]; exact p4), by first | rfl | rw [XX.out]⟩
/-- One element is put into a row that the call owns. -/
theorem row_insert (v : Value) (n i vb vc : Nat) (xs vs : List Value) (tv : TypeId) (w : World) (hown : w.ownsRow 0 56 2 v n xs) (h1x : ∀ u ∈ xs, u.oneCell' = true) (hn : n + 1 ≤ 1000000) (hi : i ≤ n)
    (hv : w.heap[vb]? = some (.cells vs.toArray tv (0, 0))) (hvl : vs.length = 2) (h1v : ∀ v ∈ vs, v.oneCell' = true) (hne : v.ownBlock ≠ some vb) :
    Calls Tryz.prog 56 #[v, .int .i64 i, .slice (some ⟨vb, 0, none⟩) 1 vc] w fun e w' => ∃ v', e = .returned v' ∧ w'.ownsRow 0 56 2 v' (n + 1) (xs.take (i * 2) ++ (vs ++ xs.drop (i * 2))) ∧ w.grownBy w' v.ownBlock ∧ w.drawn ≤ w'.drawn ∧ (v'.ownBlock = v.ownBlock ∨ v'.ownBlock = some w.heap.size) := by
  by_cases hin : i = n
  · subst hin
    have e1 : xs.take (i * 2) = xs := List.take_of_length_le (by rw [hown.1]; exact Nat.le_refl _)
    have e2 : xs.drop (i * 2) = [] := List.drop_of_length_le (by rw [hown.1]; exact Nat.le_refl _)
    rw [e1, e2, List.append_nil]
    exact row_ins_end v i vb vc xs vs tv w hown hn hv hvl h1v
  · have hlt : i < n := by omega
    have hown' := hown
    rcases hown.2 with ⟨_, h0⟩ | ⟨g, cap, cur, rfl, hb, hg, hnc, hcm, hcs, htk⟩
    · omega
    have hvb : vb ≠ g := fun e => hne (by rw [e]; rfl)
    have hik : i * 2 ≤ n * 2 := Nat.mul_le_mul_right _ (by omega)
    have hnk : (n + 1) * 2 = n * 2 + 2 := by rw [Nat.add_mul, Nat.one_mul]
    have hik1 : (i + 1) * 2 = i * 2 + 2 := by rw [Nat.add_mul, Nat.one_mul]
    have hxl : xs.length = n * 2 := hown.1
    have hkc : n * 2 ≤ cap * 2 := Nat.mul_le_mul_right _ hnc
    have hol : (xs.take (i * 2) ++ (vs ++ xs.drop (i * 2))).length = (n + 1) * 2 := by
      simp only [List.length_append, List.length_take, List.length_drop, hvl, hxl]
      omega
    have h1c : ∀ v ∈ cur.toList.take (n * 2), v.oneCell' = true := by rw [htk]; exact h1x
    by_cases hroom : n + 1 ≤ cap
    · have hkr := Nat.mul_le_mul_right 2 hroom
      refine (row_ins_shift g n cap i vb vc cur vs tv w hg hcs hroom (by unfold maxLen at hcm; omega) hlt hvb hv hvl h1c h1v).mono ?_
      rintro e w' ⟨rfl, rfl⟩
      rw [htk]
      have hgd : w.drew.heap[g]? = some (.cells cur 56 (0, 0)) := hg
      have H1 := heap_setCells (xs.drop (i * 2)) ((i + 1) * 2) w.drew cur hgd
      have H2 := heap_setCells vs (i * 2) _ _ H1
      have S1 := setCells_same g (xs.drop (i * 2)) ((i + 1) * 2) w.drew
      have S2 := setCells_same g vs (i * 2) (w.drew.setCells g ((i + 1) * 2) (xs.drop (i * 2)))
      refine ⟨_, rfl, ⟨hol, .inr ⟨g, cap, _, rfl, hb, H2, hroom, hcm, by rw [ovl_size, ovl_size, hcs], ?_⟩⟩, ⟨S2.1.trans S1.1, S2.2.1.trans S1.2.1, S2.2.2.1.trans S1.2.2.1, ?_, fun q hq hne' => ?_⟩, ?_, .inl rfl⟩
      · have hcl : cur.toList.length = cap * 2 := by rw [Array.length_toList, hcs]
        rw [ovl_list _ _ _ (by rw [ovl_size, hcs, hvl]; omega), ovl_list _ _ _ (by rw [hcs, List.length_drop, hxl]; omega), hvl, ← htk, hnk, hik1]
        exact shift_list cur.toList vs (i * 2) (n * 2) 2 hik (by rw [hcl]; omega) hvl
      · rw [S2.2.2.2.1, S1.2.2.2.1]; exact Nat.le_refl _
      · have hqg : q ≠ g := fun e => hne' (by rw [e]; rfl)
        rw [heap_setCells_ne hqg, heap_setCells_ne hqg]
        rfl
      · rw [S2.2.2.2.2, S1.2.2.2.2]; exact Nat.le_succ _
    · refine (row_ins_grow g n cap i vb vc cur vs tv w hg hcs hnc (by omega) hn hlt hv hvl h1c h1v).mono ?_
      rintro e w' ⟨G, ROW, rfl, p1, p2, p3, p4, rfl⟩
      rw [htk] at p4 ⊢
      have hkr := Nat.mul_le_mul_right 2 p1
      have H0 : ((w.alloc (.cells ROW 56)).drew).heap[w.heap.size]? = some (.cells ROW 56 (0, 0)) := by
        show (w.heap.push _)[w.heap.size]? = _
        simp
      have H1 := heap_setCells vs (i * 2) _ _ H0
      have H2 := heap_setCells (xs.drop (i * 2)) ((i + 1) * 2) (((w.alloc (.cells ROW 56)).drew.setCells w.heap.size (i * 2) vs).drew) _ H1
      have S1 := setCells_same w.heap.size vs (i * 2) ((w.alloc (.cells ROW 56)).drew)
      have S2 := setCells_same w.heap.size (xs.drop (i * 2)) ((i + 1) * 2) (((w.alloc (.cells ROW 56)).drew.setCells w.heap.size (i * 2) vs).drew)
      refine ⟨_, rfl, ⟨hol, .inr ⟨w.heap.size, G, _, rfl, Nat.zero_le _, H2, p1, p2, by rw [ovl_size, ovl_size, p3], ?_⟩⟩, ⟨S2.1.trans S1.1, S2.2.1.trans S1.2.1, S2.2.2.1.trans S1.2.2.1, ?_, fun q hq hne' => ?_⟩, ?_, .inr rfl⟩
      · have hrl : ROW.toList.length = G * 2 := by rw [Array.length_toList, p3]
        rw [ovl_list _ _ _ (by rw [ovl_size, p3, List.length_drop, hxl]; omega), ovl_list _ _ _ (by rw [p3, hvl]; omega), hvl, p4, hnk, hik1]
        exact grow_list xs vs _ _ (i * 2) (n * 2) 2 hik hxl hvl
      · rw [S2.2.2.2.1]
        show w.heap.size ≤ ((w.alloc (.cells ROW 56)).drew.setCells w.heap.size (i * 2) vs).heap.size
        rw [S1.2.2.2.1]
        simp
      · have hqg : q ≠ w.heap.size := by omega
        rw [heap_setCells_ne hqg]
        show ((w.alloc (.cells ROW 56)).drew.setCells w.heap.size (i * 2) vs).heap[q]? = _
        rw [heap_setCells_ne hqg]
        show (w.heap.push _)[q]? = _
        simp [Array.getElem?_push, hqg]
      · rw [S2.2.2.2.2]
        show w.drawn ≤ ((w.alloc (.cells ROW 56)).drew.setCells w.heap.size (i * 2) vs).drawn + 1
        rw [S1.2.2.2.2]
        exact Nat.le_trans (Nat.le_succ _) (Nat.le_succ _)
set_option maxRecDepth 1000000 in
/-- .. into a slice of no element and no room, wherever it points. -/
theorem row_insert0 (A : Option Addr) (vb vc : Nat) (vs : List Value) (tv : TypeId) (w : World) (hv : w.heap[vb]? = some (.cells vs.toArray tv (0, 0))) (hvl : vs.length = 2) (h1v : ∀ v ∈ vs, v.oneCell' = true) :
    Calls Tryz.prog 56 #[.slice A 0 0, .int .i64 0, .slice (some ⟨vb, 0, none⟩) 1 vc] w fun e w' => ∃ v', e = .returned v' ∧ w'.ownsRow 0 56 2 v' 1 vs ∧ w.grownBy w' none ∧ w.drawn ≤ w'.drawn ∧ v'.ownBlock = some w.heap.size := by
  obtain ⟨i0, hi0, hsz⟩ : ∃ i0, Tryz.prog.info? 56 = some i0 ∧ i0.size = 2 := by
    cases h : Tryz.prog.info? 56 with
    | none => have := row_size; rw [h] at this; cases this
    | some i0 => have := row_size; rw [h] at this; exact ⟨i0, rfl, by simpa using this⟩
  have hz0 : i0.zero = some (.agg #[.string ⟨#[]⟩, .string ⟨#[]⟩]) := by
    have h : (Tryz.prog.info? 56).bind (·.zero) = some (.agg #[.string ⟨#[]⟩, .string ⟨#[]⟩]) := by kernel_rfl
    rw [hi0] at h
    exact h
  have hby : i0.bytes ≤ 100000 := by
    have h : (Tryz.prog.info? 56).map (fun i => decide (i.bytes ≤ 100000)) = some true := by kernel_rfl
    rw [hi0] at h
    simpa using h
  have hsrc : Src Tryz.prog i0.size 26 (.slice (some ⟨vb, 0, none⟩) 1 vc) 1 vs w := by
    rw [hsz]
    exact Src.ofSlice w row_under ⟨vb, 0, none⟩ 1 vc vs (by rw [hvl]) (fun j u hj => by
      rw [Addr.add_lit, (cell_at hv _).1, Nat.zero_add]
      simpa using hj) h1v
  have hold : (Builtin.firstCells i0.size 0 (.slice A 0 0)).run Tryz.prog w.drew = .ok ([] : List Value).toArray w.drew := by
    rw [hsz]
    cases A with
    | none => exact run_firstCells_none w.drew 2 0 0 0
    | some a => exact run_firstCells_some w.drew 2 0 a 0 0 [] (by simp) (fun j v hj => by simp at hj)
  have hrun : ∀ ty, (Builtin.append_ #[26, 26] ty #[.slice A 0 0, .slice (some ⟨vb, 0, none⟩) 1 vc]).run Tryz.prog w = _ := fun ty =>
    run_append_grow_src w 26 26 ty 56 i0 _ row_under hi0 hz0 A 0 0 [] hold _ 1 vs hsrc (by omega) (by omega) (growslice_fits (by omega) (Nat.le_trans (Nat.mul_le_mul (Nat.le_refl _) hby) (by omega)))
  have mixed : Tryz.prog.follows .mixedOrders = true := by kernel_rfl
  have hG := grownCap_ge w (0 + 1) 0 56
  have hGm := grownCap_le_maxLen w (0 + 1) 0 56 (by unfold maxLen; omega)
  have post : ∃ v', (.slice (some ⟨w.heap.size, 0, none⟩) (0 + 1) (grownCap w (0 + 1) 0 56) : Value) = v' ∧ (w.drew.alloc (.cells (([] ++ vs).toArray ++ Builtin.zeroCells (Value.agg #[.string ⟨#[]⟩, .string ⟨#[]⟩]).cells (grownCap w (0 + 1) 0 56 - (0 + 1))) 56)).ownsRow 0 56 2 v' 1 vs := by
    refine ⟨_, rfl, ⟨by rw [hvl], .inr ⟨w.heap.size, _, _, rfl, Nat.zero_le _, heap_alloc_new w.drew _, hG, hGm, ?_, ?_⟩⟩⟩
    · have hzc : ∀ m, (Builtin.zeroCells (Value.agg #[.string ⟨#[]⟩, .string ⟨#[]⟩]).cells m).size = m * 2 := fun m => by simp [Builtin.zeroCells, Value.cells]
      have := Nat.mul_le_mul_right 2 hG
      simp only [Array.size_append, List.size_toArray, List.nil_append, hzc, hvl, Nat.sub_mul]
      omega
    · simp only [Array.toList_append, List.nil_append]
      rw [List.take_append_of_le_length (by simp [hvl]), List.take_of_length_le (by simp [hvl])]
  have grown : w.grownBy (w.drew.alloc (.cells (([] ++ vs).toArray ++ Builtin.zeroCells (Value.agg #[.string ⟨#[]⟩, .string ⟨#[]⟩]).cells (grownCap w (0 + 1) 0 56 - (0 + 1))) 56)) none := ⟨rfl, rfl, rfl, by simp, fun k hk _ => by
    show (w.heap.push _)[k]? = _
    rw [Array.getElem?_push, if_neg (by omega)]⟩
  clear hold hsrc hi0 hG hGm hv
  go_enter Tryz.func56, Tryz.ntmps56
  cases A with
  | none =>
    go_wp2_with (at_builtin; refine Lib.wpList_append_run _ rfl _ _ _ _ rfl _ _ rfl rfl _ _ (hrun _) ?_)
    go_ret
    obtain ⟨v', rfl, hp⟩ := post
    exact ⟨_, rfl, hp, grown, Nat.le_succ _, rfl⟩
  | some a =>
    obtain ⟨ab, ao, asp⟩ := a
    go_wp2_with (at_builtin; refine Lib.wpList_append_run _ rfl _ _ _ _ rfl _ _ rfl rfl _ _ (hrun _) ?_)
    all_goals (go_ret; obtain ⟨v', rfl, hp⟩ := post; exact ⟨_, rfl, hp, grown, Nat.le_succ _, rfl⟩)
end Go.Proofs.YtiolfkmkbccndaaGreatDoor
