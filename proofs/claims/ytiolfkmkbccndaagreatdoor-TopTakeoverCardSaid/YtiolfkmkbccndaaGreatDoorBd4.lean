/- Parts of the proof, one behind the other: Sym4, Sym5. -/
import Derived.Test.YtiolfkmkbccndaaGreatDoorSym3
section
/- A symbolic run is sound: operations that only compute. -/
namespace Go.Proofs.YtiolfkmkbccndaaGreatDoor.Sym
open Go.RowKit

section
variable {P : Program} {env : Env} {N : Nat}

theorem asBool_rel {x : SV} {b : Bool} {v : Value} (h : asBoolS x = some b) (hr : vrel env N x v) : v = .bool b := by
  unfold asBoolS at h
  split at h
  · simp only [Option.some.injEq] at h; subst h; exact hr
  · simp only [Option.some.injEq] at h; subst h; exact hr
  · cases h

theorem beq_dec {α : Type} [BEq α] [LawfulBEq α] [DecidableEq α] (a b : α) : (a == b) = decide (a = b) := by by_cases h : a = b <;> simp [h]
theorem arith_ok {wrap : Bool} {k : IntKind} {n : Int} {r : SV} (h : (arith wrap k n).gives r) : r = .c (.int k (k.wrap n)) := by
  unfold arith at h
  split at h
  · rw [T.gives_need, T.gives_ret] at h
    rw [← h.2, IntWalk.i64_in n h.1]
  · rw [T.gives_ret] at h; exact h.symm
theorem arith_rel {wrap : Bool} {k : IntKind} {n : Int} {r : SV} (h : (arith wrap k n).gives r) : vrel env N r (.int k (k.wrap n)) := by
  rw [arith_ok h]; rfl

theorem bytes_toList (l : List UInt8) : (⟨l.toArray⟩ : ByteArray).toList = l := by rw [ByteArray.toList_eq]
theorem bytes_size (l : List UInt8) : (⟨l.toArray⟩ : ByteArray).size = l.length := by
  show l.toArray.size = _
  simp
theorem bytes_append (a b : List UInt8) : (⟨a.toArray⟩ : ByteArray) ++ ⟨b.toArray⟩ = ⟨(a ++ b).toArray⟩ := by
  apply ByteArray.ext
  show (ByteArray.append _ _).data = _
  simp [ByteArray.append_eq]

theorem binS_sound {wrap : Bool} {op : BinOp} {x y r : SV} {u v : Value} (h : (binS wrap op x y).gives r) (hx : vrel env N x u) (hy : vrel env N y v) (t : TypeId) :
    (∃ a b, u = .int a b) ∨ (∃ s, u = .string s) → ∃ res, (∀ w, (binOp op t u v).run P w = .ok res w) ∧ vrel env N r res := by
  intro _
  unfold binS at h
  split at h
  · rename_i k a k' b
    have hu : u = .int k a := hx
    have hv : v = .int k' b := hy
    subst hu hv
    split at h
    · rw [T.gives_need, T.gives_ret] at h
      obtain ⟨h0, rfl⟩ := h
      exact ⟨_, fun w => by simp [binOp, Op.shift, show ¬ b < 0 by omega ], rfl⟩
    · rw [T.gives_need, T.gives_ret] at h
      obtain ⟨h0, rfl⟩ := h
      exact ⟨_, fun w => by simp [binOp, Op.shift, show ¬ b < 0 by omega ], rfl⟩
    · split at h
      · rename_i hk
        subst hk
        split at h
        · exact ⟨_, fun w => by simp [binOp, Op.intArith], arith_rel h⟩
        · exact ⟨_, fun w => by simp [binOp, Op.intArith], arith_rel h⟩
        · exact ⟨_, fun w => by simp [binOp, Op.intArith], arith_rel h⟩
        · rw [T.gives_need] at h
          exact ⟨_, fun w => by simp [binOp, Op.intDiv, h.1], arith_rel h.2⟩
        · rw [T.gives_need, T.gives_ret] at h
          obtain ⟨h0, rfl⟩ := h
          exact ⟨_, fun w => by simp [binOp, Op.intDiv, h0 ], rfl⟩
        · rw [T.gives_ret] at h; subst h
          exact ⟨_, fun w => by simp [binOp, intBits_and ], rfl⟩
        · rw [T.gives_ret] at h; subst h
          exact ⟨_, fun w => by simp [binOp, intBits_or ], rfl⟩
        · rw [T.gives_ret] at h; subst h
          exact ⟨_, fun w => by simp [binOp, intBits_xor ], rfl⟩
        · rw [T.gives_ret] at h; subst h
          exact ⟨_, fun w => by simp [binOp, intBits_andNot ], rfl⟩
        · simp only [boolS, T.gives_ret] at h; subst h
          exact ⟨.bool _, fun w => by simp [binOp, Op.intCmp, beq_dec, bne], rfl⟩
        · simp only [boolS, T.gives_ret] at h; subst h
          exact ⟨.bool _, fun w => by simp [binOp, Op.intCmp, beq_dec, bne], rfl⟩
        · simp only [boolS, T.gives_ret] at h; subst h
          exact ⟨.bool _, fun w => by simp [binOp, Op.intCmp, beq_dec, bne], rfl⟩
        · simp only [boolS, T.gives_ret] at h; subst h
          exact ⟨.bool _, fun w => by simp [binOp, Op.intCmp, beq_dec, bne], rfl⟩
        · simp only [boolS, T.gives_ret] at h; subst h
          exact ⟨.bool _, fun w => by simp [binOp, Op.intCmp, beq_dec, bne], rfl⟩
        · simp only [boolS, T.gives_ret] at h; subst h
          exact ⟨.bool _, fun w => by simp [binOp, Op.intCmp, beq_dec, bne], rfl⟩
        · exact h.elim
      · exact h.elim
  · rename_i a b
    have hu : u = .string ⟨a.toArray⟩ := hx
    have hv : v = .string ⟨b.toArray⟩ := hy
    subst hu hv
    split at h
    · rw [T.gives_need, T.gives_ret] at h
      obtain ⟨h0, rfl⟩ := h
      refine ⟨.string ⟨(a ++ b).toArray⟩, fun w => ?_, rfl⟩
      simp only [binOp, Op.stringOp, bytes_size, bytes_append]
      rw [if_neg (by simp [IntKind.max, IntKind.signed, IntKind.bits]; omega)]
      rfl
    all_goals first | exact h.elim | skip
    all_goals
      simp only [boolS, T.gives_ret] at h
      subst h
      refine ⟨_, fun w => by simp only [binOp, Op.stringOp, bytes_toList]; rfl, ?_⟩
      simp [vrel, vrel1, crel, beq_dec]
  · exact h.elim
end
end Go.Proofs.YtiolfkmkbccndaaGreatDoor.Sym
end
section
/- A symbolic run is sound: equality, parts, conversions, slices, indices. -/
namespace Go.Proofs.YtiolfkmkbccndaaGreatDoor.Sym
open Go.RowKit

section
variable {P : Program} {env : Env} {N : Nat}

/-! ### '==' -/
/-- The value of a type that cells make up. -/
def ofCells (P : Program) (t : TypeId) (vs : List Value) : Value := if isAggB P t then .agg vs.toArray else vs.getD 0 undef

theorem run_isAgg (t : TypeId) (w : World) (h : (P.underlying t).isSome = true) : (isAgg t).run P w = .ok (isAggB P t) w := by
  obtain ⟨d, hd⟩ := Option.isSome_iff_exists.1 h
  unfold isAgg isAggB
  simp only [Sem.run_bind, run_underlying hd, Result.andThen_ok, hd]
  cases d <;> rfl
theorem cellsOf_size {t : TypeId} (h : (P.info? t).isSome = true) (w : World) : (sizeOf t).run P w = .ok (P.cellsOf t) w := by
  obtain ⟨i, hi⟩ := Option.isSome_iff_exists.1 h
  simp [sizeOf, typeInfo, hi, Program.cellsOf]
theorem info_of_und {t : TypeId} (h : (P.underlying t).isSome = true) : (P.info? t).isSome = true := by
  unfold Program.underlying at h
  cases hi : P.info? t with
  | none => simp [hi] at h
  | some i => rfl
theorem crels_drop_take {cs : List Cell} {vs : List Value} (h : crels env N cs vs) (o n : Nat) : crels env N ((cs.drop o).take n) ((vs.drop o).take n) := f2_take n (f2_drop o h)
theorem extract_list (vs : List Value) (o n : Nat) : vs.toArray.extract o (o + n) = ((vs.drop o).take n).toArray := by
  simp [List.extract_toArray, Nat.add_sub_cancel_left]
/-- 'part', run: for a one-cell type, or a struct or an array. -/
theorem run_part (t : TypeId) (vs : List Value) (off : Nat) (w : World) (hu : (P.underlying t).isSome = true) (h1 : isAggB P t = false → off < vs.length ∧ P.cellsOf t = 1) :
    (part t vs.toArray off).run P w = .ok (ofCells P t ((vs.drop off).take (P.cellsOf t))) w := by
  unfold part ofCells
  simp only [Sem.run_bind, run_isAgg t w hu, Result.andThen_ok]
  cases ha : isAggB P t with
  | true => simp only [if_true, Sem.run_bind, cellsOf_size (info_of_und hu), Result.andThen_ok, Sem.run_pure, extract_list]
  | false =>
    obtain ⟨hl, hc⟩ := h1 ha
    simp only [Bool.false_eq_true, if_false, hc, List.getElem?_toArray, List.getElem?_eq_getElem hl, Sem.run_pure]
    rw [List.drop_eq_getElem_cons hl]
    rfl

theorem eqFs_sound {rec : TypeId → List Cell → List Cell → Option Bool} {d : Nat} (hrec : ∀ (t : TypeId) (cs ds : List Cell) (b : Bool) (us vs : List Value), rec t cs ds = some b → crels env N cs us → crels env N ds vs →
      (P.underlying t).isSome = true ∧ (isAggB P t = false → cs.length = 1 ∧ ds.length = 1) ∧ ∀ w, (Op.equalIn d t (ofCells P t us) (ofCells P t vs)).run P w = .ok b w)
    (cs ds : List Cell) (us vs : List Value) (hu : crels env N cs us) (hv : crels env N ds vs) : ∀ (fs : List Field) (b : Bool), eqFs rec P cs ds fs = some b →
      ∀ w, (Op.eqFields d us.toArray vs.toArray fs).run P w = .ok b w
  | [], b, h, w => by simp [eqFs] at h; subst h; rfl
  | f :: fs, b, h, w => by
    unfold eqFs at h
    split at h
    · cases h
    · rename_i hnm
      rw [not_or] at hnm
      obtain ⟨hname, hone⟩ := hnm
      have hone : isAggB P f.type = false → P.cellsOf f.type = 1 := fun ha => by
        rcases Nat.decEq (P.cellsOf f.type) 1 with h1 | h1
        · exact absurd ⟨h1, ha⟩ hone
        · exact h1
      split at h
      · cases h
      · rename_i b1 hb1
        obtain ⟨k1, k2, k3⟩ := hrec _ _ _ _ _ _ hb1 (crels_drop_take hu f.offset _) (crels_drop_take hv f.offset _)
        have hlen : ∀ (xs : List Cell) (ys : List Value), crels env N xs ys → ((xs.drop f.offset).take (P.cellsOf f.type)).length = 1 → f.offset < ys.length := fun xs ys hh h1 => by
          have := f2_length hh
          rw [List.length_take, List.length_drop] at h1
          omega
        have hp1 : (part f.type us.toArray f.offset).run P w = .ok (ofCells P f.type ((us.drop f.offset).take (P.cellsOf f.type))) w :=
          run_part f.type us f.offset w k1 fun ha => ⟨hlen cs us hu (k2 ha).1, hone ha⟩
        have hp2 : (part f.type vs.toArray f.offset).run P w = .ok (ofCells P f.type ((vs.drop f.offset).take (P.cellsOf f.type))) w :=
          run_part f.type vs f.offset w k1 fun ha => ⟨hlen ds vs hv (k2 ha).2, hone ha⟩
        simp only [Op.eqFields, ne_eq, hname, not_false_eq_true, if_true, Sem.run_bind, hp1, Result.andThen_ok, hp2, k3]
        cases b1 with
        | false =>
          simp only [Bool.not_false, if_true, Sem.run_pure]
          cases fs with
          | nil => simp at h; subst h; rfl
          | cons g fs =>
            cases hq : eqFs rec P cs ds (g :: fs) with
            | none => simp [hq] at h
            | some c => simp [hq] at h; subst h; rfl
        | true =>
          simp only [Bool.not_true, Bool.false_eq_true, if_false]
          cases fs with
          | nil => simp at h; subst h; rfl
          | cons g fs =>
            cases hq : eqFs rec P cs ds (g :: fs) with
            | none => simp [hq] at h
            | some c =>
              simp [hq] at h
              subst h
              exact eqFs_sound hrec cs ds us vs hu hv _ _ hq w

theorem eqT_sound : ∀ (d D : Nat), d ≤ D → ∀ (t : TypeId) (cs ds : List Cell) (b : Bool) (us vs : List Value), eqT P d t cs ds = some b → crels env N cs us → crels env N ds vs →
      (P.underlying t).isSome = true ∧ (isAggB P t = false → cs.length = 1 ∧ ds.length = 1) ∧ ∀ w, (Op.equalIn D t (ofCells P t us) (ofCells P t vs)).run P w = .ok b w
  | 0, _, _, _, _, _, _, _, _, h, _, _ => by cases h
  | d + 1, 0, hD, _, _, _, _, _, _, _, _, _ => by omega
  | d + 1, D + 1, hD, t, cs, ds, b, us, vs, h, hu, hv => by
    unfold eqT at h
    split at h
    · rename_i ht
      split at h
      · rename_i a c
        simp at h
        subst h
        have hagg : isAggB P t = false := by simp [isAggB, ht]
        cases hu with
        | cons hu1 hu2 =>
          cases hu2
          cases hv with
          | cons hv1 hv2 =>
            cases hv2
            have e1 := hu1
            have e2 := hv1
            simp only [crel] at e1 e2
            subst e1 e2
            exact ⟨by rw [ht]; rfl, fun _ => ⟨rfl, rfl⟩, fun w => by simp only [ofCells, hagg]; exact run_equalIn_bool' w D t a c ht⟩
      · cases h
    · rename_i kd ht
      split at h
      · rename_i k a k' c
        split at h
        · rename_i hk
          subst hk
          simp at h
          subst h
          have hagg : isAggB P t = false := by simp [isAggB, ht]
          cases hu with
          | cons hu1 hu2 =>
            cases hu2
            cases hv with
            | cons hv1 hv2 =>
              cases hv2
              have e1 := hu1
              have e2 := hv1
              simp only [crel] at e1 e2
              subst e1 e2
              exact ⟨by rw [ht]; rfl, fun _ => ⟨rfl, rfl⟩, fun w => by
                simp only [ofCells, hagg]
                have := run_equalIn_int (P := P) w D t k kd a c ht
                rw [beq_dec] at this
                exact this⟩
        · cases h
      · cases h
    · rename_i ht
      split at h
      · rename_i a c
        simp at h
        subst h
        have hagg : isAggB P t = false := by simp [isAggB, ht]
        cases hu with
        | cons hu1 hu2 =>
          cases hu2
          cases hv with
          | cons hv1 hv2 =>
            cases hv2
            have e1 := hu1
            have e2 := hv1
            simp only [crel] at e1 e2
            subst e1 e2
            exact ⟨by rw [ht]; rfl, fun _ => ⟨rfl, rfl⟩, fun w => by
              simp only [ofCells, hagg]
              have := run_equalIn_string (P := P) w D t ⟨a.toArray⟩ ⟨c.toArray⟩ ht
              rw [bytes_toList, bytes_toList, beq_dec] at this
              exact this⟩
      · cases h
    · rename_i fs ht
      split at h
      · cases h
      · rename_i hst
        have hagg : isAggB P t = true := by simp [isAggB, ht]
        refine ⟨by rw [ht]; rfl, fun hh => (by rw [hagg] at hh; cases hh), fun w => ?_⟩
        have hf : P.fieldsOf t = fs := by simp [Program.fieldsOf, ht]
        simp only [ofCells, hagg, if_true]
        rw [run_equalIn_struct w D t us.toArray vs.toArray (by rw [hf]; exact ht) (by simpa using hst), hf]
        refine eqFs_sound (fun t cs ds b us vs => eqT_sound d D (by omega) t cs ds b us vs) cs ds us vs hu hv fs.toList b h w
    · cases h

theorem flt_sound {op : BinOp} {k k' : FloatKind} {a b : Nat} {r : SV} (h : (fltS op k k' a b).gives r) (t : TypeId) (X Y : Operand) :
    ∃ res, (∀ w, (do eqGuard op t X Y (.float k a) (.float k' b); binOp op t (.float k a) (.float k' b) : Sem Value).run P w = .ok res w) ∧ vrel env N r res := by
  unfold fltS at h
  split at h
  · rename_i hk
    subst hk
    have hg : ∀ w, (eqGuard op t X Y (.float k a) (.float k b)).run P w = .ok () w := fun w => by cases op <;> simp [eqGuard]
    simp only [Sem.run_bind, hg, Result.andThen_ok]
    split at h
    case h_7 =>
      rw [T.gives_need, T.gives_ret] at h
      obtain ⟨hs, rfl⟩ := h
      obtain ⟨q, hq⟩ := Option.isSome_iff_exists.1 hs
      refine ⟨.float k q, fun w => run_float_arith w .mul t k a b q hq, ?_⟩
      unfold F.fmul
      rw [hq]
      rfl
    case h_8 => exact h.elim
    all_goals
      rw [boolS, T.gives_ret] at h
      subst h
      exact ⟨_, fun w => by simp [binOp, Op.floatCmp, F.feq, F.flt, F.fgt]; try rfl, rfl⟩
  · exact h.elim
theorem binAll_sound {wrap : Bool} {op : BinOp} {t : TypeId} {x y r : SV} {u v : Value} (h : (binAllS P wrap op t x y).gives r) (hx : vrel env N x u) (hy : vrel env N y v) (X Y : Operand) :
    ∃ res, (∀ w, (do eqGuard op t X Y u v; binOp op t u v : Sem Value).run P w = .ok res w) ∧ vrel env N r res := by
  unfold binAllS at h
  split at h
  · rename_i k a k' b
    have hu : u = .int k a := hx
    have hv : v = .int k' b := hy
    obtain ⟨res, h1, h2⟩ := binS_sound (P := P) h hx hy t (.inl ⟨k, a, hu⟩)
    refine ⟨res, fun w => ?_, h2⟩
    subst hu hv
    have hg : (eqGuard op t X Y (.int k a) (.int k' b)).run P w = .ok () w := by cases op <;> simp [eqGuard]
    simp only [Sem.run_bind, hg, Result.andThen_ok, h1]
  · rename_i a b
    have hu : u = .string ⟨a.toArray⟩ := hx
    have hv : v = .string ⟨b.toArray⟩ := hy
    obtain ⟨res, h1, h2⟩ := binS_sound (P := P) h hx hy t (.inr ⟨_, hu⟩)
    refine ⟨res, fun w => ?_, h2⟩
    subst hu hv
    have hg : (eqGuard op t X Y (.string ⟨a.toArray⟩) (.string ⟨b.toArray⟩)).run P w = .ok () w := by cases op <;> simp [eqGuard]
    simp only [Sem.run_bind, hg, Result.andThen_ok, h1]
  · rename_i k a k' b
    have hu : u = .float k a := hx
    have hv : v = .float k' b := hy
    subst hu hv
    exact flt_sound h t X Y
  · have key : ∀ b, eqS P t x y = some b → (∀ w, (eqGuard .eql t X Y u v).run P w = .ok () w) ∧ (∀ w, (eqGuard .neq t X Y u v).run P w = .ok () w) ∧
        (∀ w, (binOp .eql t u v).run P w = .ok (.bool b) w) ∧ (∀ w, (binOp .neq t u v).run P w = .ok (.bool (!b)) w) := by
      intro b hb
      unfold eqS at hb
      split at hb
      · rename_i xs ys _ _ _
        obtain ⟨us, rfl, hus⟩ := hx
        obtain ⟨vs, rfl, hvs⟩ := hy
        split at hb
        · cases hb
        · rename_i hc
          rw [not_or] at hc
          obtain ⟨hg, ha⟩ := hc
          have hg : P.eqGuardType P.depth t = false := by simpa using hg
          have ha : isAggB P t = true := by simpa using ha
          obtain ⟨_, _, k3⟩ := eqT_sound 8 10000 (by omega) t xs ys b us.toList vs.toList hb hus hvs
          simp only [ofCells, ha, if_true, Array.toArray_toList] at k3
          exact ⟨fun w => run_eqGuard_agg w .eql t X Y us vs hg, fun w => run_eqGuard_agg w .neq t X Y us vs hg, fun w => by rw [run_eql_struct, k3]; rfl, fun w => by rw [run_neq_struct, k3]; rfl⟩
      · split at hb
        · rename_i a c ha hc
          have e1 := asBool_rel ha hx
          have e2 := asBool_rel hc hy
          subst e1 e2
          split at hb
          · rename_i ht
            simp only [Option.some.injEq] at hb
            subst hb
            exact ⟨fun w => by simp [eqGuard], fun w => by simp [eqGuard], fun w => run_eql_bool w t a c ht, fun w => run_neq_bool w t a c ht⟩
          · cases hb
        · cases hb
    have key2 : ∀ p b, nilS P t x y = some (p, b) → p → (∀ w, (eqGuard .eql t X Y u v).run P w = .ok () w) ∧ (∀ w, (eqGuard .neq t X Y u v).run P w = .ok () w) ∧
        (∀ w, (binOp .eql t u v).run P w = .ok (.bool b) w) ∧ (∀ w, (binOp .neq t u v).run P w = .ok (.bool (!b)) w) := by
      intro p b hb hp
      have slc : ∀ e (A : Option Addr) (n c : Nat), P.underlying t = some (.slice e) → (∀ w, (eqGuard .eql t X Y (.slice A n c) (.slice none 0 0)).run P w = .ok () w) ∧ (∀ w, (eqGuard .neq t X Y (.slice A n c) (.slice none 0 0)).run P w = .ok () w) ∧
          (∀ w, (binOp .eql t (.slice A n c) (.slice none 0 0)).run P w = .ok (.bool A.isNone) w) ∧ (∀ w, (binOp .neq t (.slice A n c) (.slice none 0 0)).run P w = .ok (.bool (!A.isNone)) w) := fun e A n c ht => by
        have h1 : ∀ w d, (Op.equalIn (d + 1) t (.slice A n c) (.slice none 0 0)).run P w = .ok A.isNone w := fun w d => by cases A <;> simp [Op.equalIn, run_underlying ht]
        have h2 : ∀ w, (Op.equal t (.slice A n c) (.slice none 0 0)).run P w = .ok A.isNone w := fun w => h1 w 9999
        exact ⟨fun w => by simp [eqGuard], fun w => by simp [eqGuard], fun w => by simp [binOp, h2], fun w => by simp [binOp, h2]⟩
      have ptr : ∀ e (A : Option Addr), P.underlying t = some (.pointer e) → (∀ w, (eqGuard .eql t X Y (.pointer A) (.pointer none)).run P w = .ok () w) ∧ (∀ w, (eqGuard .neq t X Y (.pointer A) (.pointer none)).run P w = .ok () w) ∧
          (∀ w, (binOp .eql t (.pointer A) (.pointer none)).run P w = .ok (.bool A.isNone) w) ∧ (∀ w, (binOp .neq t (.pointer A) (.pointer none)).run P w = .ok (.bool (!A.isNone)) w) := fun e A ht => by
        have h1 : ∀ w d, (Op.equalIn (d + 1) t (.pointer A) (.pointer none)).run P w = .ok A.isNone w := fun w d => by cases A <;> simp [Op.equalIn, run_underlying ht]
        have h2 : ∀ w, (Op.equal t (.pointer A) (.pointer none)).run P w = .ok A.isNone w := fun w => h1 w 9999
        exact ⟨fun w => by simp [eqGuard], fun w => by simp [eqGuard], fun w => by simp [binOp, h2], fun w => by simp [binOp, h2]⟩
      unfold nilS at hb
      split at hb
      · rename_i e ht
        split at hb
        · rename_i k i n tt _ _ _
          simp only [Option.some.injEq, Prod.mk.injEq] at hb
          obtain ⟨rfl, rfl⟩ := hb
          obtain ⟨_, A, c, rfl, _, _, _, hA⟩ := hx
          have hv : v = .slice none 0 0 := hy
          subst hv
          have := slc e A n c ht
          rw [hA hp] at this ⊢
          exact this
        · rename_i k n _ _ _
          simp only [Option.some.injEq, Prod.mk.injEq] at hb
          obtain ⟨rfl, rfl⟩ := hb
          obtain ⟨_, _, A, c, rfl, _, _, hA⟩ := hx
          have hv : v = .slice none 0 0 := hy
          subst hv
          have := slc e A n c ht
          rw [hA hp] at this ⊢
          exact this
        · simp only [Option.some.injEq, Prod.mk.injEq] at hb
          obtain ⟨rfl, rfl⟩ := hb
          have hu : u = .slice none 0 0 := hx
          have hv : v = .slice none 0 0 := hy
          subst hu hv
          exact slc e none 0 0 ht
        · cases hb
      · rename_i e ht
        split at hb
        · simp only [Option.some.injEq, Prod.mk.injEq] at hb
          obtain ⟨rfl, rfl⟩ := hb
          obtain ⟨_, rfl⟩ := hx
          have hv : v = .pointer none := hy
          subst hv
          exact ptr e (some _) ht
        · simp only [Option.some.injEq, Prod.mk.injEq] at hb
          obtain ⟨rfl, rfl⟩ := hb
          have hu : u = .pointer none := hx
          have hv : v = .pointer none := hy
          subst hu hv
          exact ptr e none ht
        · cases hb
      · cases hb
    split at h
    · split at h
      · rename_i b hb
        obtain ⟨k1, k2, k3, k4⟩ := key b hb
        simp only [boolS, T.gives_ret] at h
        subst h
        exact ⟨.bool b, fun w => by simp only [Sem.run_bind, k1, Result.andThen_ok, k3], rfl⟩
      · split at h
        · rename_i p b hb
          rw [T.gives_need] at h
          obtain ⟨hp, h⟩ := h
          obtain ⟨k1, k2, k3, k4⟩ := key2 p b hb hp
          simp only [boolS, T.gives_ret] at h
          subst h
          exact ⟨.bool b, fun w => by simp only [Sem.run_bind, k1, Result.andThen_ok, k3], rfl⟩
        · exact h.elim
    · split at h
      · rename_i b hb
        obtain ⟨k1, k2, k3, k4⟩ := key b hb
        simp only [boolS, T.gives_ret] at h
        subst h
        exact ⟨.bool (!b), fun w => by simp only [Sem.run_bind, k2, Result.andThen_ok, k4], rfl⟩
      · split at h
        · rename_i p b hb
          rw [T.gives_need] at h
          obtain ⟨hp, h⟩ := h
          obtain ⟨k1, k2, k3, k4⟩ := key2 p b hb hp
          simp only [boolS, T.gives_ret] at h
          subst h
          exact ⟨.bool (!b), fun w => by simp only [Sem.run_bind, k2, Result.andThen_ok, k4], rfl⟩
        · exact h.elim
    · exact h.elim

theorem un_sound {wrap : Bool} {op : UnOp} {x r : SV} {u : Value} (h : (unS wrap op x).gives r) (hx : vrel env N x u) : ∃ res, (∀ w, (Op.unary op u).run P w = .ok res w) ∧ vrel env N r res := by
  unfold unS at h
  split at h
  · rename_i k n
    have hu : u = .int k n := hx
    subst hu
    exact ⟨.int k (k.wrap (-n)), fun w => by simp [Op.unary, Op.intArith], arith_rel h⟩
  · split at h
    · rename_i b hb
      have e := asBool_rel hb hx
      subst e
      simp only [boolS, T.gives_ret] at h
      subst h
      exact ⟨.bool (!b), fun w => by simp [Op.unary], rfl⟩
    · exact h.elim
  · exact h.elim

theorem part_sound {t : TypeId} {cs : List Cell} {vs : List Value} {off : Nat} {r : SV} (h : (partS P t cs off).gives r) (hv : crels env N cs vs) (hu : (P.underlying t).isSome = true) :
    ∃ res, (∀ w, (part t vs.toArray off).run P w = .ok res w) ∧ vrel env N r res := by
  unfold partS at h
  split at h
  · rename_i ha
    rw [T.gives_ret] at h
    subst h
    refine ⟨.agg ((vs.drop off).take (P.cellsOf t)).toArray, fun w => ?_, ⟨_, rfl, by simpa using crels_drop_take hv off _⟩⟩
    have := run_part t vs off w hu (fun hh => by rw [ha] at hh; cases hh)
    simpa [ofCells, ha] using this
  · rename_i ha
    split at h
    · rename_i c hc
      rw [T.gives_ret] at h
      subst h
      obtain ⟨u, h1, h2⟩ := f2_get hv hc
      refine ⟨u, fun w => ?_, h2⟩
      unfold part
      simp only [Sem.run_bind, run_isAgg t w hu, Result.andThen_ok, ha, Bool.false_eq_true, if_false, List.getElem?_toArray, h1, Sem.run_pure]
    · exact h.elim

theorem conv_sound {wrap : Bool} {s d : TypeId} {x r : SV} {u : Value} (h : (convS P wrap s d x).gives r) (hx : vrel env N x u) : ∃ res, (∀ w, (convert s d u).run P w = .ok res w) ∧ vrel env N r res := by
  unfold convS at h
  split at h
  · rename_i sd k k0 n hs hd
    have hu : u = .int k0 n := hx
    subst hu
    refine ⟨.int k (k.wrap n), fun w => ?_, arith_rel h⟩
    simp [convert, run_underlying hs, run_underlying hd, Conv.intToInt]
  · rename_i sd b hs hd
    have hu : u = .string ⟨b.toArray⟩ := hx
    subst hu
    rw [T.gives_ret] at h
    subst h
    refine ⟨_, fun w => ?_, rfl⟩
    simp [convert, run_underlying hs, run_underlying hd]
  · rename_i sd k k0 n hs hd
    have hu : u = .int k0 n := hx
    subst hu
    rw [T.gives_ret] at h
    subst h
    refine ⟨.float k (k.nearest n), fun w => ?_, rfl⟩
    simp [convert, run_underlying hs, run_underlying hd, Conv.intToFloat]
  · rename_i sd k s0 b hs hd
    have hu : u = .float s0 b := hx
    subst hu
    rw [T.gives_need, T.gives_ret] at h
    obtain ⟨hq, rfl⟩ := h
    obtain ⟨q, hq⟩ := Option.isSome_iff_exists.1 hq
    refine ⟨.int k q, fun w => run_convert_float_int w _ _ s0 k b q (by rw [hs]; rfl) hd hq, ?_⟩
    unfold F.f2i
    rw [hq]
    rfl
  · exact h.elim
end
end Go.Proofs.YtiolfkmkbccndaaGreatDoor.Sym
end
