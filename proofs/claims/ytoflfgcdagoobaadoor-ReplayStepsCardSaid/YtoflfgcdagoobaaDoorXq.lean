/- Summaries: internal/stringslite.IndexByte, replay.counter. -/
import Derived.Test.YtoflfgcdagoobaaDoorBd26
import Derived.Test.YtoflfgcdagoobaaDoorBd39
import Derived.Lib.Bytealg
import Derived.Lib.Strings
namespace Go.Proofs.YtoflfgcdagoobaaDoor
open Go.ChangeShapes Go.WideShapes Go.ChangeAt Go.RowKit Sym
set_option maxRecDepth 100000
noncomputable section
set_option maxHeartbeats 1000000 in
theorem indexByte_calls (s : ByteArray) (c : Int) (w : World) :
    Calls Tryd.prog 83 #[.string s, .int .u8 c] w fun e w' => e = .returned (.int .i64 (Lib.indexByte s.data.toList c.toNat.toUInt8)) ∧ w' = w := by
  go_enter Tryd.func83, Tryd.ntmps83
  go_wp2
  rw [run_callFunc_extern Tryd.func97 (by kernel_rfl) (by kernel_rfl) (by kernel_rfl) (e := Extern.BytealgIndexByte.indexByte) (by kernel_rfl), Lib.run_indexByteString]
  simp only [Result.andThen]
  rw [Oper.upon_value]
  go_wp2
  go_ret
  exact ⟨rfl, rfl⟩
/-- Where the first space is; -1: there is none. -/
def F.idx (s : List UInt8) : Int := Lib.indexByte s 32
def s_ixb : Summ cod := fun args _ => match args with
  | [.c (.str s), .c (.int .u8 c)] => .need (c = 32) (.ret (.c (.int .i64 (F.idx s)), []))
  | _ => .fail
theorem ixb_sound : Sound Tryd.prog cod 83 s_ixb := by
  refine Sound.scal (fun args w => enters_fn Tryd.func83 rfl rfl args w) fun args H r news w ht hg => ?_
  unfold s_ixb at hg
  split at hg
  · rename_i s c
    obtain ⟨rfl, hg⟩ := hg
    cases hg
    refine ⟨rfl, rfl, .int .i64 (F.idx s), fun _ _ => rfl, ?_⟩
    refine (indexByte_calls ⟨s.toArray⟩ 32 w).mono ?_
    rintro e w' ⟨rfl, rfl⟩
    exact ⟨rfl, ⟨Below.refl _ _, Nat.le_refl _⟩⟩
  · exact hg.elim
theorem err_cell {w : World} {M : Nat → Prop} (h : TabW w M) {g : Nat} (hg : (g, isErr) ∈ tabs) : ∃ tp p, w.cell? ⟨g, 0, none⟩ = some (.iface tp p) := by
  obtain ⟨⟨cs, ty, tg, h1, tp, p, hcs⟩, _⟩ := h (g, isErr) hg
  subst hcs
  refine ⟨tp, p, ?_⟩
  simp only [World.cell?, h1]
  rfl
def s_ctr : Summ cod := fun args _ => match args with
  | [.c (.str s)] => .need (s.length ≤ 1000000000000) (.ret (.tup [.c (.int .i64 (F.atN s)), .c (.bool (F.ctH s))], []))
  | _ => .fail
theorem ctr_sound : Sound Tryd.prog cod 62 s_ctr := by
  refine Sound.scal (fun args w => enters_fn Tryd.func62 rfl rfl args w) fun args H r news w ht hg => ?_
  unfold s_ctr at hg
  split at hg
  · rename_i s
    obtain ⟨hs, hg⟩ := hg
    cases hg
    refine ⟨rfl, rfl, .tuple #[.int .i64 (F.atN s), .bool (F.ctH s)], fun _ _ => ⟨_, rfl, .cons rfl (.cons rfl .nil)⟩, ?_⟩
    have hsz : (⟨s.toArray⟩ : ByteArray).size = s.length := by simp [ByteArray.size]
    have hb : ∀ {w' : World}, Below w.heap.size w w' → Blw w w' := fun h => ⟨h, Nat.le_refl _⟩
    cases ha : Lib.atoiAll s with
    | ok v =>
      have e1 : F.atN s = v := by unfold F.atN; rw [ha]
      have e2 : F.ctH s = (decide (-1000000000 ≤ v) && decide (v ≤ 1000000000) && (Lib.itoa v == s)) := by unfold F.ctH; rw [ha]
      rw [e1, e2]
      by_cases c : -1000000000 ≤ v ∧ v ≤ 1000000000
      · refine (counter_ok ⟨s.toArray⟩ v (by omega) ha c.1 c.2 w (tab10 ht)).mono ?_
        rintro e w' ⟨rfl, h⟩
        rw [decide_eq_true c.1, decide_eq_true c.2, Bool.true_and, Bool.true_and, Lib.toList_data]
        exact ⟨rfl, hb h⟩
      · refine (counter_out ⟨s.toArray⟩ v (by omega) ha (by omega) w).mono ?_
        rintro e w' ⟨rfl, h⟩
        have e3 : (decide (-1000000000 ≤ v) && decide (v ≤ 1000000000) && (Lib.itoa v == s)) = false := by
          rw [← Bool.decide_and, decide_eq_false c, Bool.false_and]
        rw [e3]
        exact ⟨rfl, hb h⟩
    | range =>
      have e1 : F.atN s = Lib.atoiSat s := by unfold F.atN; rw [ha]
      have e2 : F.ctH s = false := by unfold F.ctH; rw [ha]
      rw [e1, e2]
      obtain ⟨tp, p, hc⟩ := err_cell ht (g := 5) (by simp [tabs])
      refine (counter_ran ⟨s.toArray⟩ (by omega) ha _ w hc (.inr ⟨tp, p, rfl⟩)).mono ?_
      rintro e w' ⟨rfl, h⟩
      exact ⟨rfl, hb h⟩
    | _ =>
      have e1 : F.atN s = 0 := by unfold F.atN; rw [ha]
      have e2 : F.ctH s = false := by unfold F.ctH; rw [ha]
      rw [e1, e2]
      obtain ⟨tp, p, hc⟩ := err_cell ht (g := 4) (by simp [tabs])
      refine (counter_syn ⟨s.toArray⟩ (by omega) ha _ w hc (.inr ⟨tp, p, rfl⟩)).mono ?_
      rintro e w' ⟨rfl, h⟩
      exact ⟨rfl, hb h⟩
  · exact hg.elim
end
end Go.Proofs.YtoflfgcdagoobaaDoor
