/- A symbolic run is sound: operations that only compute. -/
import Derived.Test.YtjffboggpofbfaaSym3
namespace Go.Proofs.Ytjffboggpofbfaa.Sym
open Go.RowKit

section
variable {P : Program} {env : Env} {N : Nat}

theorem asBool_rel {x : SV} {b : Bool} {v : Value} (h : asBoolS x = some b) (hr : vrel env N x v) : v = .bool b := by
  unfold asBoolS at h
  split at h
  · simp only [Option.some.injEq] at h; subst h; exact hr
  · simp only [Option.some.injEq] at h; subst h; exact hr
  · cases h

theorem beq_dec {α : Type} [BEq α] [LawfulBEq α] [DecidableEq α] (a b : α) : (a == b) = decide (a = b) := by by_cases h : a = b <;> simp [h]
theorem arith_ok {wrap : Bool} {k : IntKind} {n : Int} {r : SV} (h : (arith wrap k n).gives r) : r = .c (.int k (k.wrap n)) := by
  unfold arith at h
  split at h
  · rw [T.gives_need, T.gives_ret] at h
    rw [← h.2, IntWalk.i64_in n h.1]
  · rw [T.gives_ret] at h; exact h.symm
theorem arith_rel {wrap : Bool} {k : IntKind} {n : Int} {r : SV} (h : (arith wrap k n).gives r) : vrel env N r (.int k (k.wrap n)) := by
  rw [arith_ok h]; rfl

theorem bytes_toList (l : List UInt8) : (⟨l.toArray⟩ : ByteArray).toList = l := by rw [ByteArray.toList_eq]
theorem bytes_size (l : List UInt8) : (⟨l.toArray⟩ : ByteArray).size = l.length := by
  show l.toArray.size = _
  simp
theorem bytes_append (a b : List UInt8) : (⟨a.toArray⟩ : ByteArray) ++ ⟨b.toArray⟩ = ⟨(a ++ b).toArray⟩ := by
  apply ByteArray.ext
  show (ByteArray.append _ _).data = _
  simp [ByteArray.append_eq]

theorem binS_sound {wrap : Bool} {op : BinOp} {x y r : SV} {u v : Value} (h : (binS wrap op x y).gives r) (hx : vrel env N x u) (hy : vrel env N y v) (t : TypeId) :
    (∃ a b, u = .int a b) ∨ (∃ s, u = .string s) → ∃ res, (∀ w, (binOp op t u v).run P w = .ok res w) ∧ vrel env N r res := by
  intro _
  unfold binS at h
  split at h
  · rename_i k a k' b
    have hu : u = .int k a := hx
    have hv : v = .int k' b := hy
    subst hu hv
    split at h
    · rw [T.gives_need, T.gives_ret] at h
      obtain ⟨h0, rfl⟩ := h
      exact ⟨_, fun w => by simp [binOp, Op.shift, show ¬ b < 0 by omega ], rfl⟩
    · rw [T.gives_need, T.gives_ret] at h
      obtain ⟨h0, rfl⟩ := h
      exact ⟨_, fun w => by simp [binOp, Op.shift, show ¬ b < 0 by omega ], rfl⟩
    · split at h
      · rename_i hk
        subst hk
        split at h
        · exact ⟨_, fun w => by simp [binOp, Op.intArith], arith_rel h⟩
        · exact ⟨_, fun w => by simp [binOp, Op.intArith], arith_rel h⟩
        · exact ⟨_, fun w => by simp [binOp, Op.intArith], arith_rel h⟩
        · rw [T.gives_need] at h
          exact ⟨_, fun w => by simp [binOp, Op.intDiv, h.1], arith_rel h.2⟩
        · rw [T.gives_need, T.gives_ret] at h
          obtain ⟨h0, rfl⟩ := h
          exact ⟨_, fun w => by simp [binOp, Op.intDiv, h0 ], rfl⟩
        · rw [T.gives_ret] at h; subst h
          exact ⟨_, fun w => by simp [binOp, intBits_and ], rfl⟩
        · rw [T.gives_ret] at h; subst h
          exact ⟨_, fun w => by simp [binOp, intBits_or ], rfl⟩
        · rw [T.gives_ret] at h; subst h
          exact ⟨_, fun w => by simp [binOp, intBits_xor ], rfl⟩
        · rw [T.gives_ret] at h; subst h
          exact ⟨_, fun w => by simp [binOp, intBits_andNot ], rfl⟩
        · simp only [boolS, T.gives_ret] at h; subst h
          exact ⟨.bool _, fun w => by simp [binOp, Op.intCmp, beq_dec, bne], rfl⟩
        · simp only [boolS, T.gives_ret] at h; subst h
          exact ⟨.bool _, fun w => by simp [binOp, Op.intCmp, beq_dec, bne], rfl⟩
        · simp only [boolS, T.gives_ret] at h; subst h
          exact ⟨.bool _, fun w => by simp [binOp, Op.intCmp, beq_dec, bne], rfl⟩
        · simp only [boolS, T.gives_ret] at h; subst h
          exact ⟨.bool _, fun w => by simp [binOp, Op.intCmp, beq_dec, bne], rfl⟩
        · simp only [boolS, T.gives_ret] at h; subst h
          exact ⟨.bool _, fun w => by simp [binOp, Op.intCmp, beq_dec, bne], rfl⟩
        · simp only [boolS, T.gives_ret] at h; subst h
          exact ⟨.bool _, fun w => by simp [binOp, Op.intCmp, beq_dec, bne], rfl⟩
        · exact h.elim
      · exact h.elim
  · rename_i a b
    have hu : u = .string ⟨a.toArray⟩ := hx
    have hv : v = .string ⟨b.toArray⟩ := hy
    subst hu hv
    split at h
    · rw [T.gives_need, T.gives_ret] at h
      obtain ⟨h0, rfl⟩ := h
      refine ⟨.string ⟨(a ++ b).toArray⟩, fun w => ?_, rfl⟩
      simp only [binOp, Op.stringOp, bytes_size, bytes_append]
      rw [if_neg (by simp [IntKind.max, IntKind.signed, IntKind.bits]; omega)]
      rfl
    all_goals first | exact h.elim | skip
    all_goals
      simp only [boolS, T.gives_ret] at h
      subst h
      refine ⟨_, fun w => by simp only [binOp, Op.stringOp, bytes_toList]; rfl, ?_⟩
      simp [vrel, vrel1, crel, beq_dec]
  · exact h.elim
end
end Go.Proofs.Ytjffboggpofbfaa.Sym
