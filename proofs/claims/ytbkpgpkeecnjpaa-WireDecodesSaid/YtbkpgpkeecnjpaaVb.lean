/- Part of a claim: lemmas on the way to its theorem; each states its own conditions. -/
import Derived.Test.YtbkpgpkeecnjpaaVa
namespace Go.Proofs.Ytbkpgpkeecnjpaa
open Sym Go.RowKit
noncomputable section
set_option maxRecDepth 100000
set_option maxHeartbeats 4000000



def T.out {α : Type} : Sym.T α → Option α
  | .ret a => some a
  | .ite c t e => cond c (T.out t) (T.out e)
  | .need _ t => T.out t
  | .fail => none
def F.tofT (b : Int) : Sym.T (Sym.Fin cod) := symF (mkW L_tlen) [] Try.f50.results.toList 0 400 [.code (codeOf Try.f50)] ⟨argsS Try.f50 [.c (.int .u64 b), .c (.int .i64 0)], ([] : Heap cod)⟩
def F.tofP : Option (Sym.Fin cod) → Int × Bool × Int
  | some (.fin (.tup [.c (.int _ x), .c (.bool y), .c (.int _ z)]) _) => (x, y, z)
  | _ => (0, false, 0)
theorem F.tof_ex (b : Int) : ∃ x : Int × Bool × Int, x = F.tofP (T.out (F.tofT b)) := ⟨_, rfl⟩
def F.tof (b : Int) : Int × Bool × Int := Classical.choose (F.tof_ex b)
def F.tofA (b : Int) : Int := (F.tof b).1
def F.tofB (b : Int) : Bool := (F.tof b).2.1
def F.tofC (b : Int) : Int := (F.tof b).2.2


theorem tof_eq (b : Int) : F.tof b = F.tofP (T.out (F.tofT b)) := Classical.choose_spec (F.tof_ex b)
structure Gv {α : Type} (t : Sym.T α) (a : α) : Prop where
  h : t.gives a
theorem T.out_gives {α : Type} {t : Sym.T α} {a : α} (h : Gv t a) : T.out t = some a := by
  obtain ⟨h⟩ := h
  induction t with
  | ret b => exact congrArg some h
  | ite c t e iht ihe =>
    cases c with
    | true => exact iht (h.1 rfl)
    | false => exact ihe (h.2 rfl)
  | need p t ih => exact ih h.2
  | fail => exact h.elim


def cuts_tofx : Cuts := []

theorem tofx_t0 (b : Int) : symF (mkW L_tlen) cuts_tofx Try.f50.results.toList 0 400 [.code (codeOf Try.f50)] ⟨argsS Try.f50 [.c (.int .u64 b), .c (.int .i64 0)], ([] : Heap cod)⟩ =
.need (((0 : Int) ≤ b ∧ b < 18446744073709551616)) (
 cond (decide (F.tfE b = 2047)) (
 .ret (.fin (.tup [.c (.int .i64 0), .c (.bool false), .c (.int .i64 3)]) [])) (
 .need (((0 : Int) ≤ b ∧ b < 18446744073709551616)) (
 .need (((0 : Int) ≤ b ∧ b < 18446744073709551616)) (
 cond (decide (F.tfE b = 0)) (
  .need ((0 : Int) ≤ 63) (
  cond (decide (F.tfF b = 0)) (
   .ret (.fin (.tup [.c (.int .i64 0), .c (.bool true), .c (.int .i64 0)]) [])) (
   .need ((0 : Int) ≤ min (IntKind.wrap IntKind.i64 (-IntKind.wrap IntKind.i64 (IntKind.wrap IntKind.i64 (1 - 1075) + 0))) 63) (
   .need ((0 : Int) ≤ min (IntKind.wrap IntKind.i64 (-IntKind.wrap IntKind.i64 (IntKind.wrap IntKind.i64 (1 - 1075) + 0))) 63) (
   cond (!decide (Int.fdiv b (2 ^ min (Int.toNat 63) 64) = 1)) (
    cond (decide   (9223372036854775807 <     Int.fdiv (F.tfF b)       (2 ^         min           (Int.toNat             (min (IntKind.wrap IntKind.i64 (-IntKind.wrap IntKind.i64 (IntKind.wrap IntKind.i64 (1 - 1075) + 0))) 63))           64))) (
     .ret (.fin (.tup [.c (.int .i64 0), .c (.bool false), .c (.int .i64 2)]) [])) (
     .ret (.fin (.tup [.c (.int .i64 (IntKind.wrap IntKind.i64   (Int.fdiv (F.tfF b)     (2 ^       min         (Int.toNat           (min (IntKind.wrap IntKind.i64 (-IntKind.wrap IntKind.i64 (IntKind.wrap IntKind.i64 (1 - 1075) + 0))) 63))         64)))), .c (.bool (decide   (bits BinOp.and IntKind.u64 (F.tfF b)       (IntKind.wrap IntKind.u64         (IntKind.wrap IntKind.u64             (1 *               2 ^                 min                   (Int.toNat                     (min                       (IntKind.wrap IntKind.i64 (-IntKind.wrap IntKind.i64 (IntKind.wrap IntKind.i64 (1 - 1075) + 0)))                       63))                   64) -           1)) =     0))), .c (.int .i64 0)]) []))) (
    cond (!decide     (bits BinOp.and IntKind.u64 (F.tfF b)         (IntKind.wrap IntKind.u64           (IntKind.wrap IntKind.u64               (1 *                 2 ^                   min                     (Int.toNat                       (min                         (IntKind.wrap IntKind.i64 (-IntKind.wrap IntKind.i64 (IntKind.wrap IntKind.i64 (1 - 1075) + 0)))                         63))                     64) -             1)) =       0)) (
     cond (decide   (9223372036854775808 <     IntKind.wrap IntKind.u64       (Int.fdiv (F.tfF b)           (2 ^             min               (Int.toNat                 (min (IntKind.wrap IntKind.i64 (-IntKind.wrap IntKind.i64 (IntKind.wrap IntKind.i64 (1 - 1075) + 0)))                   63))               64) +         1))) (
      .ret (.fin (.tup [.c (.int .i64 0), .c (.bool false), .c (.int .i64 2)]) [])) (
      .ret (.fin (.tup [.c (.int .i64 (IntKind.wrap IntKind.i64   (IntKind.wrap IntKind.u64     (-IntKind.wrap IntKind.u64         (Int.fdiv (F.tfF b)             (2 ^               min                 (Int.toNat                   (min (IntKind.wrap IntKind.i64 (-IntKind.wrap IntKind.i64 (IntKind.wrap IntKind.i64 (1 - 1075) + 0)))                     63))                 64) +           1))))), .c (.bool (decide   (bits BinOp.and IntKind.u64 (F.tfF b)       (IntKind.wrap IntKind.u64         (IntKind.wrap IntKind.u64             (1 *               2 ^                 min                   (Int.toNat                     (min                       (IntKind.wrap IntKind.i64 (-IntKind.wrap IntKind.i64 (IntKind.wrap IntKind.i64 (1 - 1075) + 0)))                       63))                   64) -           1)) =     0))), .c (.int .i64 0)]) []))) (
     cond (decide   (9223372036854775808 <     Int.fdiv (F.tfF b)       (2 ^         min           (Int.toNat             (min (IntKind.wrap IntKind.i64 (-IntKind.wrap IntKind.i64 (IntKind.wrap IntKind.i64 (1 - 1075) + 0))) 63))           64))) (
      .ret (.fin (.tup [.c (.int .i64 0), .c (.bool false), .c (.int .i64 2)]) [])) (
      .ret (.fin (.tup [.c (.int .i64 (IntKind.wrap IntKind.i64   (IntKind.wrap IntKind.u64     (-Int.fdiv (F.tfF b)         (2 ^           min             (Int.toNat               (min (IntKind.wrap IntKind.i64 (-IntKind.wrap IntKind.i64 (IntKind.wrap IntKind.i64 (1 - 1075) + 0))) 63))             64))))), .c (.bool (decide   (bits BinOp.and IntKind.u64 (F.tfF b)       (IntKind.wrap IntKind.u64         (IntKind.wrap IntKind.u64             (1 *               2 ^                 min                   (Int.toNat                     (min                       (IntKind.wrap IntKind.i64 (-IntKind.wrap IntKind.i64 (IntKind.wrap IntKind.i64 (1 - 1075) + 0)))                       63))                   64) -           1)) =     0))), .c (.int .i64 0)]) []))))))))) (
  .need ((0 : Int) ≤ 63) (
  cond (decide (bits BinOp.or IntKind.u64 (F.tfF b) 4503599627370496 = 0)) (
   .ret (.fin (.tup [.c (.int .i64 0), .c (.bool true), .c (.int .i64 0)]) [])) (
   cond (decide (0 ≤ IntKind.wrap IntKind.i64 (IntKind.wrap IntKind.i64 (F.tfE b - 1075) + 0))) (
    .need (((4503599627370496 : Int) ≤ bits BinOp.or IntKind.u64 (F.tfF b) 4503599627370496 ∧ bits BinOp.or IntKind.u64 (F.tfF b) 4503599627370496 < 9007199254740992)) (
    cond (decide (64 < IntKind.wrap IntKind.i64 (53 + IntKind.wrap IntKind.i64 (IntKind.wrap IntKind.i64 (F.tfE b - 1075) + 0)))) (
     .ret (.fin (.tup [.c (.int .i64 0), .c (.bool false), .c (.int .i64 2)]) [])) (
     .need ((0 : Int) ≤ IntKind.wrap IntKind.i64 (IntKind.wrap IntKind.i64 (F.tfE b - 1075) + 0)) (
     cond (!decide (Int.fdiv b (2 ^ min (Int.toNat 63) 64) = 1)) (
      cond (decide   (9223372036854775807 <     IntKind.wrap IntKind.u64       (bits BinOp.or IntKind.u64 (F.tfF b) 4503599627370496 *         2 ^ min (Int.toNat (IntKind.wrap IntKind.i64 (IntKind.wrap IntKind.i64 (F.tfE b - 1075) + 0))) 64))) (
       .ret (.fin (.tup [.c (.int .i64 0), .c (.bool false), .c (.int .i64 2)]) [])) (
       .ret (.fin (.tup [.c (.int .i64 (IntKind.wrap IntKind.i64   (IntKind.wrap IntKind.u64     (bits BinOp.or IntKind.u64 (F.tfF b) 4503599627370496 *       2 ^ min (Int.toNat (IntKind.wrap IntKind.i64 (IntKind.wrap IntKind.i64 (F.tfE b - 1075) + 0))) 64)))), .c (.bool true), .c (.int .i64 0)]) []))) (
      cond (decide   (9223372036854775808 <     IntKind.wrap IntKind.u64       (bits BinOp.or IntKind.u64 (F.tfF b) 4503599627370496 *         2 ^ min (Int.toNat (IntKind.wrap IntKind.i64 (IntKind.wrap IntKind.i64 (F.tfE b - 1075) + 0))) 64))) (
       .ret (.fin (.tup [.c (.int .i64 0), .c (.bool false), .c (.int .i64 2)]) [])) (
       .ret (.fin (.tup [.c (.int .i64 (IntKind.wrap IntKind.i64   (IntKind.wrap IntKind.u64     (-IntKind.wrap IntKind.u64         (bits BinOp.or IntKind.u64 (F.tfF b) 4503599627370496 *           2 ^ min (Int.toNat (IntKind.wrap IntKind.i64 (IntKind.wrap IntKind.i64 (F.tfE b - 1075) + 0))) 64))))), .c (.bool true), .c (.int .i64 0)]) []))))))) (
    .need ((0 : Int) ≤ min (IntKind.wrap IntKind.i64 (-IntKind.wrap IntKind.i64 (IntKind.wrap IntKind.i64 (F.tfE b - 1075) + 0))) 63) (
    .need ((0 : Int) ≤ min (IntKind.wrap IntKind.i64 (-IntKind.wrap IntKind.i64 (IntKind.wrap IntKind.i64 (F.tfE b - 1075) + 0))) 63) (
    cond (!decide (Int.fdiv b (2 ^ min (Int.toNat 63) 64) = 1)) (
     cond (decide   (9223372036854775807 <     Int.fdiv (bits BinOp.or IntKind.u64 (F.tfF b) 4503599627370496)       (2 ^         min           (Int.toNat             (min (IntKind.wrap IntKind.i64 (-IntKind.wrap IntKind.i64 (IntKind.wrap IntKind.i64 (F.tfE b - 1075) + 0)))               63))           64))) (
      .ret (.fin (.tup [.c (.int .i64 0), .c (.bool false), .c (.int .i64 2)]) [])) (
      .ret (.fin (.tup [.c (.int .i64 (IntKind.wrap IntKind.i64   (Int.fdiv (bits BinOp.or IntKind.u64 (F.tfF b) 4503599627370496)     (2 ^       min         (Int.toNat           (min (IntKind.wrap IntKind.i64 (-IntKind.wrap IntKind.i64 (IntKind.wrap IntKind.i64 (F.tfE b - 1075) + 0)))             63))         64)))), .c (.bool (decide   (bits BinOp.and IntKind.u64 (bits BinOp.or IntKind.u64 (F.tfF b) 4503599627370496)       (IntKind.wrap IntKind.u64         (IntKind.wrap IntKind.u64             (1 *               2 ^                 min                   (Int.toNat                     (min                       (IntKind.wrap IntKind.i64                         (-IntKind.wrap IntKind.i64 (IntKind.wrap IntKind.i64 (F.tfE b - 1075) + 0)))                       63))                   64) -           1)) =     0))), .c (.int .i64 0)]) []))) (
     cond (!decide     (bits BinOp.and IntKind.u64 (bits BinOp.or IntKind.u64 (F.tfF b) 4503599627370496)         (IntKind.wrap IntKind.u64           (IntKind.wrap IntKind.u64               (1 *                 2 ^                   min                     (Int.toNat                       (min                         (IntKind.wrap IntKind.i64                           (-IntKind.wrap IntKind.i64 (IntKind.wrap IntKind.i64 (F.tfE b - 1075) + 0)))                         63))                     64) -             1)) =       0)) (
      cond (decide   (9223372036854775808 <     IntKind.wrap IntKind.u64       (Int.fdiv (bits BinOp.or IntKind.u64 (F.tfF b) 4503599627370496)           (2 ^             min               (Int.toNat                 (min                   (IntKind.wrap IntKind.i64 (-IntKind.wrap IntKind.i64 (IntKind.wrap IntKind.i64 (F.tfE b - 1075) + 0)))                   63))               64) +         1))) (
       .ret (.fin (.tup [.c (.int .i64 0), .c (.bool false), .c (.int .i64 2)]) [])) (
       .ret (.fin (.tup [.c (.int .i64 (IntKind.wrap IntKind.i64   (IntKind.wrap IntKind.u64     (-IntKind.wrap IntKind.u64         (Int.fdiv (bits BinOp.or IntKind.u64 (F.tfF b) 4503599627370496)             (2 ^               min                 (Int.toNat                   (min                     (IntKind.wrap IntKind.i64                       (-IntKind.wrap IntKind.i64 (IntKind.wrap IntKind.i64 (F.tfE b - 1075) + 0)))                     63))                 64) +           1))))), .c (.bool (decide   (bits BinOp.and IntKind.u64 (bits BinOp.or IntKind.u64 (F.tfF b) 4503599627370496)       (IntKind.wrap IntKind.u64         (IntKind.wrap IntKind.u64             (1 *               2 ^                 min                   (Int.toNat                     (min                       (IntKind.wrap IntKind.i64                         (-IntKind.wrap IntKind.i64 (IntKind.wrap IntKind.i64 (F.tfE b - 1075) + 0)))                       63))                   64) -           1)) =     0))), .c (.int .i64 0)]) []))) (
      cond (decide   (9223372036854775808 <     Int.fdiv (bits BinOp.or IntKind.u64 (F.tfF b) 4503599627370496)       (2 ^         min           (Int.toNat             (min (IntKind.wrap IntKind.i64 (-IntKind.wrap IntKind.i64 (IntKind.wrap IntKind.i64 (F.tfE b - 1075) + 0)))               63))           64))) (
       .ret (.fin (.tup [.c (.int .i64 0), .c (.bool false), .c (.int .i64 2)]) [])) (
       .ret (.fin (.tup [.c (.int .i64 (IntKind.wrap IntKind.i64   (IntKind.wrap IntKind.u64     (-Int.fdiv (bits BinOp.or IntKind.u64 (F.tfF b) 4503599627370496)         (2 ^           min             (Int.toNat               (min                 (IntKind.wrap IntKind.i64 (-IntKind.wrap IntKind.i64 (IntKind.wrap IntKind.i64 (F.tfE b - 1075) + 0)))                 63))             64))))), .c (.bool (decide   (bits BinOp.and IntKind.u64 (bits BinOp.or IntKind.u64 (F.tfF b) 4503599627370496)       (IntKind.wrap IntKind.u64         (IntKind.wrap IntKind.u64             (1 *               2 ^                 min                   (Int.toNat                     (min                       (IntKind.wrap IntKind.i64                         (-IntKind.wrap IntKind.i64 (IntKind.wrap IntKind.i64 (F.tfE b - 1075) + 0)))                       63))                   64) -           1)) =     0))), .c (.int .i64 0)]) [])))))))))))))) := by kernel_rfl



theorem or_full {b : Int} : bits .or .u64 (F.tfF b) 4503599627370496 = F.tfF b + 4503599627370496 := by
  have hb : 0 ≤ F.tfF b ∧ F.tfF b < 4503599627370496 := by unfold F.tfF; omega
  obtain ⟨m, hm⟩ := Int.eq_ofNat_of_zero_le hb.1
  rw [hm] at hb ⊢
  have a := u64_or_nat m 4503599627370496 (by omega) (by decide)
  rw [show ((4503599627370496 : Nat) : Int) = 4503599627370496 from rfl] at a
  rw [a, Nat.or_comm, nat_join 52 _ _ (by decide) (by omega)]
  omega
theorem wrap_in {n : Int} (h : -9223372036854775808 ≤ n ∧ n ≤ 9223372036854775807) : IntKind.wrap .i64 n = n := wrap_ok h
theorem ite_any {c : Prop} [Decidable c] {a b : Prop} (ha : a) (hb : b) : if c then a else b := by
  split
  · exact ha
  · exact hb
theorem form_gives {t : Sym.T (Sym.Fin cod)} (h : t.wp fun a => ∃ x y z, a = .fin (.tup [.c (.int .i64 x), .c (.bool y), .c (.int .i64 z)]) []) : ∃ x y z, Gv t (.fin (.tup [.c (.int .i64 x), .c (.bool y), .c (.int .i64 z)]) []) := by
  obtain ⟨a, h1, x, y, z, rfl⟩ := T.wp_gives h
  exact ⟨x, y, z, ⟨h1⟩⟩
theorem runs_gives {cfg : Cfg cod} (hS : CfgFit cfg) (hm : cfg.P.follows .mixedOrders = true) (cuts : Cuts) (g : Nat) {b0 : Base} {n : Nat} (hb : b0.n = n) {fn : Func} {r : SV} {news : Heap cod} {k : List Item} {st : St cod} {t : Sym.T (Sym.Fin cod)} (ht : symF cfg cuts fn.results.toList n g k st = t) (h : Gv t (.fin r news)) : Sym.Runs cfg.P b0 k st (Sym.Ends cfg.P fn n r news) :=
  Runs.go hS hm cuts g hb ht (T.gives_wp h.h ⟨rfl, rfl⟩)
theorem tof_form {b : Int} (h : 0 ≤ b ∧ b < 18446744073709551616) : ∃ x y z, Gv (F.tofT b) (.fin (.tup [.c (.int .i64 x), .c (.bool y), .c (.int .i64 z)]) []) := by
  have e := tofx_t0 b
  unfold cuts_tofx at e
  unfold F.tofT
  rw [e]
  refine form_gives ?_
  have hE : 0 ≤ F.tfE b ∧ F.tfE b < 2048 := by unfold F.tfE; omega
  have hF : 0 ≤ F.tfF b ∧ F.tfF b < 4503599627370496 := by unfold F.tfF; omega
  have W1 : IntKind.wrap .i64 (IntKind.wrap .i64 (F.tfE b - 1075) + 0) = F.tfE b - 1075 := by rw [wrap_in (n := F.tfE b - 1075) (by omega), Int.add_zero, wrap_in (by omega)]
  have W2 : IntKind.wrap .i64 (-(F.tfE b - 1075)) = -(F.tfE b - 1075) := wrap_in (by omega)
  have W3 : IntKind.wrap .i64 (-IntKind.wrap .i64 (IntKind.wrap .i64 (1 - 1075) + 0)) = 1074 := by decide
  simp only [T.wp, T.wp_cond, decide_eq_true_eq, or_full, W1, W2, W3]
  generalize F.tfE b = E at *
  generalize F.tfF b = f at *
  clear W1 W2 W3 e
  by_cases k : 0 ≤ E - 1075
  · simp only [if_pos k]
    repeat' (first | with_reducible exact Exists.intro _ (Exists.intro _ (Exists.intro _ rfl)) | with_reducible exact k | with_reducible refine And.intro ?_ ?_ | with_reducible refine ite_any ?_ ?_)
    all_goals omega
  · simp only [if_neg k]
    repeat' (first | with_reducible exact Exists.intro _ (Exists.intro _ (Exists.intro _ rfl)) | with_reducible refine And.intro ?_ ?_ | with_reducible refine ite_any ?_ ?_)
    all_goals omega
theorem tofx_run (b : Int) (b0 : Base) (hb : b0.n = 0) (h0 : 0 ≤ b ∧ b < 18446744073709551616) : Sym.Runs Try.prog b0 [.code (codeOf Try.f50)] ⟨argsS Try.f50 [.c (.int .u64 b), .c (.int .i64 0)], ([] : Heap cod)⟩ (Sym.Ends Try.prog Try.f50 0 (.tup [.c (.int .i64 (F.tofA b)), .c (.bool (F.tofB b)), .c (.int .i64 (F.tofC b))]) []) := by
  obtain ⟨x, y, z, h1⟩ := tof_form h0
  have e : F.tof b = (x, y, z) := by rw [tof_eq, T.out_gives h1]; rfl
  unfold F.tofA F.tofB F.tofC
  rw [e]
  have e2 := tofx_t0 b
  unfold cuts_tofx at e2
  unfold F.tofT at h1
  rw [e2] at h1
  exact runs_gives (cfg := (mkW L_tlen)) L_tlen_ok mixed cuts_tofx 400 hb (tofx_t0 b) h1



noncomputable def s_tofx : Summ cod := fun args H => match args, H with
  | [.c (.int .u64 b), .c (.int .i64 0)], [] => .need ((0 ≤ b ∧ b < 18446744073709551616)) (.ret (.tup [.c (.int .i64 (F.tofA b)), .c (.bool (F.tofB b)), .c (.int .i64 (F.tofC b))], []))
  | _, _ => .fail


theorem tofx_sound : Sound Try.prog cod 50 s_tofx := sound_runs (cfg := C_tlen) L_tlen_ok mixed Try.func50 rfl rfl _ fun args H r news hg b0 hb => by
  unfold s_tofx at hg
  split at hg
  · skip
    simp only [T.gives, T.wp, Prod.mk.injEq] at hg
    obtain ⟨q0, rfl, rfl⟩ := hg
    exact tofx_run _ b0 hb (by assumption)
  · exact hg.elim

noncomputable def L_tofx : Sums cod := (50, .p s_tofx) :: L_tlen
noncomputable def C_tofx : Cfg cod := mkC L_tofx

theorem L_tofx_ok : Snd Try.prog cod L_tofx := .cons tofx_sound L_tlen_ok



theorem tof_dbl {n : Nat} (h : n ≤ 2000000) : F.tof (F.dbl n : Int) = ((n : Int), true, 0) := by
  by_cases h0 : n = 0
  · subst h0
    have e := tofx_t0 0
    unfold cuts_tofx at e
    have g : Gv (F.tofT 0) (.fin (.tup [.c (.int .i64 0), .c (.bool true), .c (.int .i64 0)]) []) := by
      unfold F.tofT
      rw [e]
      refine ⟨?_⟩
      unfold T.gives
      simp only [T.wp, T.wp_cond, decide_eq_true_eq]
      exact ⟨by decide, ite_no (by decide) ⟨by decide, by decide, ite_yes (by decide) ⟨by decide, ite_yes (by decide) trivial⟩⟩⟩
    rw [show (F.dbl 0 : Int) = 0 from rfl, tof_eq, T.out_gives g]
    rfl
  · have h1 : n < 9007199254740992 := by omega
    have hlt := dbl_lt h1
    have hl : n.log2 ≤ 20 := by
      have : n.log2 < 21 := (Nat.log2_lt h0).2 (by omega)
      omega
    obtain ⟨s1, s2⟩ := sig_bd h0 h1
    have hd : F.dbl n = (n.log2 + 1023) * 4503599627370496 + (n * 2 ^ (52 - n.log2) - 4503599627370496) := by
      unfold F.dbl
      rw [if_neg h0, show n.log2 + 1023 = (n.log2 + 1022) + 1 by omega, Nat.add_mul (n.log2 + 1022) 1]
      omega
    have hE : F.tfE (F.dbl n : Int) = (n.log2 : Int) + 1023 := by
      unfold F.tfE
      rw [hd]
      generalize n * 2 ^ (52 - n.log2) = m at *
      generalize n.log2 = l at *
      omega
    have hF : F.tfF (F.dbl n : Int) = ((n * 2 ^ (52 - n.log2) : Nat) : Int) - 4503599627370496 := by
      unfold F.tfF
      rw [hd]
      generalize n * 2 ^ (52 - n.log2) = m at *
      generalize n.log2 = l at *
      omega
    have e := tofx_t0 (F.dbl n : Int)
    unfold cuts_tofx at e
    have g : Gv (F.tofT (F.dbl n : Int)) (.fin (.tup [.c (.int .i64 n), .c (.bool true), .c (.int .i64 0)]) []) := by
      unfold F.tofT
      rw [e]
      refine ⟨?_⟩
      unfold T.gives
      have W1 : IntKind.wrap .i64 (IntKind.wrap .i64 ((n.log2 : Int) + 1023 - 1075) + 0) = (n.log2 : Int) - 52 := by rw [wrap_in (n := (n.log2 : Int) + 1023 - 1075) (by omega), Int.add_zero, wrap_in (by omega)]; omega
      have W2 : IntKind.wrap .i64 (-((n.log2 : Int) - 52)) = ((52 - n.log2 : Nat) : Int) := by rw [wrap_in (by omega)]; omega
      have W3 : min (Int.toNat (min ((52 - n.log2 : Nat) : Int) 63)) 64 = 52 - n.log2 := by omega
      have O : ((n * 2 ^ (52 - n.log2) : Nat) : Int) - 4503599627370496 + 4503599627370496 = ((n * 2 ^ (52 - n.log2) : Nat) : Int) := by omega
      have hp : 0 < 2 ^ (52 - n.log2) := Nat.pow_pos (by decide)
      have hq : 2 ^ (52 - n.log2) ≤ 2 ^ 52 := Nat.pow_le_pow_right (by decide) (by omega)
      have ec : (2 : Int) ^ (52 - n.log2) = ((2 ^ (52 - n.log2) : Nat) : Int) := by simp
      have D : Int.fdiv ((n * 2 ^ (52 - n.log2) : Nat) : Int) (2 ^ (52 - n.log2)) = (n : Int) := by
        rw [ec, Int.fdiv_eq_ediv_of_nonneg _ (by omega), ← Int.natCast_ediv, Nat.mul_div_cancel _ hp]
      have W4 : IntKind.wrap .u64 (IntKind.wrap .u64 (1 * 2 ^ (52 - n.log2)) - 1) = ((2 ^ (52 - n.log2) - 1 : Nat) : Int) := by
        rw [ec, Int.one_mul, IntKind.wrap_u64, IntKind.wrap_u64]
        generalize 2 ^ (52 - n.log2) = q at *
        clear ec D e O hd hE hF s1 s2
        omega
      have A : bits .and .u64 ((n * 2 ^ (52 - n.log2) : Nat) : Int) ((2 ^ (52 - n.log2) - 1 : Nat) : Int) = 0 := by
        rw [u64_and_nat _ _ (by omega) (by omega), Nat.and_two_pow_sub_one_eq_mod, Nat.mul_mod_left]
        rfl
      have M : Int.fdiv (F.dbl n : Int) (2 ^ min (Int.toNat 63) 64) = 0 := by
        rw [show (2 : Int) ^ min (Int.toNat 63) 64 = 9223372036854775808 by decide, Int.fdiv_eq_ediv_of_nonneg _ (by decide)]
        omega
      have OR : bits .or .u64 (F.tfF (F.dbl n : Int)) 4503599627370496 = ((n * 2 ^ (52 - n.log2) : Nat) : Int) := by rw [or_full, hF, O]
      simp only [T.wp, T.wp_cond, decide_eq_true_eq, OR, hE, W1, W2, W3, D, W4, A, M]
      have hb : (0 : Int) ≤ (F.dbl n : Int) ∧ (F.dbl n : Int) < 18446744073709551616 := by omega
      refine ⟨hb, ite_no (by omega) ⟨hb, hb, ite_no (by omega) ⟨by decide, ite_no (by omega) (ite_no (by omega) ⟨by omega, by omega, ite_yes (by decide) (ite_no (by omega) ?_)⟩)⟩⟩⟩
      rw [wrap_in (n := (n : Int)) (by omega)]
      rfl
    rw [tof_eq, T.out_gives g]
    rfl

end
end Go.Proofs.Ytbkpgpkeecnjpaa
