/- Part of a claim: lemmas on the way to its theorem; each states its own conditions. -/
import Derived.Test.YtgmnfdmlidhbcaaHd
namespace Go.Proofs.Ytgmnfdmlidhbcaa
open Sym Go.RowKit
noncomputable section
set_option maxRecDepth 100000
set_option maxHeartbeats 4000000



namespace F
def lvls (lo hi st : Int) : Int := Int.tdiv (hi - lo) st + 1
def occ (x : HL) : Bool := !decide (x.1 = [])
def upd (L : Nat → HL) (k : Nat) (x : HL) : Nat → HL := fun i => if i = k then x else L i
def topG (L : Nat → HL) : Nat → Nat → Int → Int
  | 0, _, a => a
  | n + 1, i, a => topG L n (i + 1) (if occ (L i) then (i : Int) + 1 else a)
def top (L : Nat → HL) : Int := topG L 32 0 0
def big (L : Nat → HL) : Prop := ∀ i, 32 ≤ i → L i = hl0
def mentE (lo hi st : Int) (L : Nat → HL) (la : Int) (c : List UInt8) (t : Int) : Int := if named c then (if 0 ≤ find L c then 7 else (if inb t la 200000 then (if lvls lo hi st ≤ top L then 9 else 0) else 12)) else 6
def mentL (lo hi st : Int) (L : Nat → HL) (la : Int) (c : List UInt8) (t : Int) : Nat → HL := if mentE lo hi st L la c t = 0 then upd L (top L).toNat (hlk c (lo + top L * st) t) else L
def mentV (lo hi st : Int) (L : Nat → HL) (la : Int) (c : List UInt8) (t : Int) : Int := if mentE lo hi st L la c t = 0 then lo + top L * st else 0
def mentT (lo hi st : Int) (L : Nat → HL) (la : Int) (c : List UInt8) (t : Int) : Int := if mentE lo hi st L la c t = 0 then t else la
def mdnS (L : Nat → HL) (i : Nat) : Bool := occ (L i) && !occ (L (i - 1))
def mdnU (st : Int) (L : Nat → HL) (i : Nat) : Nat → HL := upd (upd L (i - 1) (lower st (L i))) i hl0
def mdnG (st : Int) : Nat → Nat → (Nat → HL) → Int → (Nat → HL) × Int
  | 0, _, L, n => (L, n)
  | m + 1, i, L, n => if mdnS L i then mdnG st m (i + 1) (mdnU st L i) (n + 1) else mdnG st m (i + 1) L n
def mdnL (st : Int) (L : Nat → HL) (la t : Int) : Nat → HL := if inb t la 200000 then (mdnG st 31 1 L 0).1 else L
def mdnN (st : Int) (L : Nat → HL) (la t : Int) : Int := if inb t la 200000 then (mdnG st 31 1 L 0).2 else 0
def mdnE (la t : Int) : Int := if inb t la 200000 then 0 else 12
def mdnT (la t : Int) : Int := if inb t la 200000 then t else la
def anyG (L : Nat → HL) : Nat → Nat → Bool
  | 0, _ => false
  | n + 1, i => occ (L i) || anyG L n (i + 1)
def mleaE (L : Nat → HL) (la : Int) (c : List UInt8) (t : Int) : Int := if find L c < 0 then 8 else (if inb t la 200000 then (if anyG L (find L c).toNat 0 then 11 else 0) else 12)
def mleaV (L : Nat → HL) (la : Int) (c : List UInt8) (t : Int) : Int := if mleaE L la c t = 0 then t - (L (find L c).toNat).2.2 else 0
def mleaL (L : Nat → HL) (la : Int) (c : List UInt8) (t : Int) : Nat → HL := if mleaE L la c t = 0 then upd L (find L c).toNat hl0 else L
def mleaT (L : Nat → HL) (la : Int) (c : List UInt8) (t : Int) : Int := if mleaE L la c t = 0 then t else la
def mlst (L : Nat → HL) : List HL := (lv L).filter occ
/-- Heights and times of levels that sums of them fit. -/
def mok (L : Nat → HL) : Prop := ∀ i, (-1000000 ≤ (L i).2.1 ∧ (L i).2.1 ≤ 1000000) ∧ (-200000 ≤ (L i).2.2 ∧ (L i).2.2 ≤ 200000)
end F


theorem un_lv {L : Nat → F.HL} (h : F.big L) : F.un (F.lv L) = L := by
  funext i
  unfold F.un
  by_cases q : i < 32
  · exact lv_get L q
  · rw [List.getD_eq_getElem?_getD, List.getElem?_eq_none (by rw [lv_len]; omega), h i (by omega)]
    rfl
theorem big_un {l : List F.HL} (h : l.length = 32) : F.big (F.un l) := fun i hi => by
  unfold F.un
  rw [List.getD_eq_getElem?_getD, List.getElem?_eq_none (by omega)]
  rfl
theorem lv_upd (L : Nat → F.HL) (k : Nat) (x : F.HL) : (F.lv L).set k x = F.lv (F.upd L k x) := lv_set L k x
theorem findG_lt (L : Nat → F.HL) (c : List UInt8) : ∀ (m i : Nat), F.findG L c m i = -1 ∨ ((i : Int) ≤ F.findG L c m i ∧ F.findG L c m i < i + m ∧ (L (F.findG L c m i).toNat).1 = c ∧ c ≠ [])
  | 0, _ => .inl rfl
  | m + 1, i => by
    unfold F.findG
    have ih := findG_lt L c m (i + 1)
    by_cases c1 : (L i).1 = c
    · rw [if_pos c1]
      by_cases c2 : c = []
      · rw [if_pos c2]
        rcases ih with h | ⟨h1, h2, h3⟩
        · exact .inl h
        · exact .inr ⟨by omega, by omega, h3⟩
      · rw [if_neg c2]
        exact .inr ⟨by omega, by omega, by simpa using c1, c2⟩
    · rw [if_neg c1]
      rcases ih with h | ⟨h1, h2, h3⟩
      · exact .inl h
      · exact .inr ⟨by omega, by omega, h3⟩
theorem find_lt (L : Nat → F.HL) (c : List UInt8) : F.find L c = -1 ∨ (0 ≤ F.find L c ∧ F.find L c < 32 ∧ (L (F.find L c).toNat).1 = c ∧ c ≠ []) := by
  rcases findG_lt L c 32 0 with h | ⟨h1, h2, h3⟩
  · exact .inl h
  · exact .inr ⟨by unfold F.find; omega, by unfold F.find; omega, h3⟩
theorem topG_le (L : Nat → F.HL) : ∀ (m i : Nat) (a : Int), 0 ≤ a → a ≤ i → 0 ≤ F.topG L m i a ∧ F.topG L m i a ≤ i + m
  | 0, i, a, h, k => by unfold F.topG; omega
  | m + 1, i, a, h, k => by
    unfold F.topG
    have := topG_le L m (i + 1) (if F.occ (L i) then (i : Int) + 1 else a) (by split <;> omega) (by split <;> omega)
    omega
theorem top_le (L : Nat → F.HL) : 0 ≤ F.top L ∧ F.top L ≤ 32 := by
  have := topG_le L 32 0 0 (by omega) (by omega)
  unfold F.top
  omega
theorem upd_same (L : Nat → F.HL) (k : Nat) (x : F.HL) : F.upd L k x k = x := if_pos rfl
theorem upd_other (L : Nat → F.HL) {k i : Nat} (x : F.HL) (h : i ≠ k) : F.upd L k x i = L i := if_neg h
theorem occ_iff {x : F.HL} : F.occ x = true ↔ x.1 ≠ [] := by unfold F.occ; simp


def cuts_mlvl : Cuts := []

theorem mlvl_t0 (lo hi st : Int) (L : Nat → F.HL) (la : Int) : symI C_hlea cuts_mlvl Try.f36.results.toList ([.sarr [.int .i64 lo, .int .i64 hi, .int .i64 st] 1 32 (F.lv L) [.int .i64 la] 60] : Heap cod) 400 [.code (codeOf Try.f36)] ⟨argsS Try.f36 [.c (.ptr 0 0 0)], ([.sarr [.int .i64 lo, .int .i64 hi, .int .i64 st] 1 32 (F.lv L) [.int .i64 la] 60] : Heap cod)⟩ =
.need (i64ok (hi - lo)) (
.need (st ≠ 0) (
.need (i64ok (Int.tdiv (hi - lo) st)) (
.need (i64ok (Int.tdiv (hi - lo) st + 1)) (
.ret (.fin (.c (.int .i64 (Int.tdiv (hi - lo) st + 1))) [.sarr [.int .i64 lo, .int .i64 hi, .int .i64 st] 1 32 (F.lv L) [.int .i64 la] 60]))))) := by kernel_rfl



theorem mlvl_run (lo hi st : Int) (L : Nat → F.HL) (la : Int) (b0 : Base) (hb : b0.n = 1) (h0 : 0 ≤ lo ∧ lo ≤ hi ∧ hi ≤ 100000) (h1 : 1 ≤ st) : Sym.Runs Try.prog b0 [.code (codeOf Try.f36)] ⟨argsS Try.f36 [.c (.ptr 0 0 0)], ([.sarr [.int .i64 lo, .int .i64 hi, .int .i64 st] 1 32 (F.lv L) [.int .i64 la] 60] : Heap cod)⟩ (Sym.EndsI Try.prog Try.f36 ([.sarr [.int .i64 lo, .int .i64 hi, .int .i64 st] 1 32 (F.lv L) [.int .i64 la] 60] : Heap cod) (.c (.int .i64 (F.lvls lo hi st))) [.sarr [.int .i64 lo, .int .i64 hi, .int .i64 st] 1 32 (F.lv L) [.int .i64 la] 60]) := by
  refine Runs.goI (cfg := C_hlea) L_hlea_ok mixed cuts_mlvl 400 (H := ([.sarr [.int .i64 lo, .int .i64 hi, .int .i64 st] 1 32 (F.lv L) [.int .i64 la] 60] : Heap cod)) hb (mlvl_t0 lo hi st L la) ?_
  simp only [T.wp, T.wp_cond, Aft, Int.ofNat_eq_natCast, decide_eq_true_eq, and_true, true_and, Nat.zero_add, Bool.not_eq_true', decide_eq_false_iff_not]
  have hd := Int.tdiv_nonneg (a := hi - lo) (b := st) (by omega) (by omega)
  have hd2 : Int.tdiv (hi - lo) st ≤ hi - lo := by
    rw [Int.tdiv_eq_ediv_of_nonneg (by omega)]
    exact Int.ediv_le_self _ (by omega)
  exact ⟨by unfold Sym.i64ok; omega, by omega, by unfold Sym.i64ok; omega, by unfold Sym.i64ok; omega, rfl⟩



noncomputable def s_mlvl : Summ cod := fun args H => match args, H with
  | [.c (.ptr 0 0 0)], [o0] => (match o0.asSarr 1 32 60 with | some ([.int .i64 lo, .int .i64 hi, .int .i64 st], l0, [.int .i64 la]) => .need (l0 = F.lv (F.un l0)) (.need ((0 ≤ lo ∧ lo ≤ hi ∧ hi ≤ 100000) ∧ (1 ≤ st)) (.ret (.c (.int .i64 (F.lvls lo hi st)), [.sarr [.int .i64 lo, .int .i64 hi, .int .i64 st] 1 32 l0 [.int .i64 la] 60]))) | _ => .fail)
  | _, _ => .fail


theorem mlvl_sound : SoundI Try.prog cod 36 s_mlvl := tree_soundI (cfg := C_hlea) Try.func36 rfl rfl _ fun args H r H' hg b0 hb => by
  unfold s_mlvl at hg
  split at hg
  · skip
    split at hg
    · rename_i lo hi st l0 la hx0
      cases asSarr_spec hx0
      clear hx0
      obtain ⟨hl0, hg⟩ := hg
      generalize F.un l0 = L at hl0 hg
      subst hl0
      obtain ⟨hq, hg⟩ := hg
      obtain ⟨q0, q1⟩ := hq
      cases hg
      exact mlvl_run _ _ _ _ _ b0 hb (by assumption) (by assumption)
    · exact hg.elim
  · exact hg.elim

noncomputable def L_mlvl : Sums cod := (36, .i s_mlvl) :: L_hlea
noncomputable def C_mlvl : Cfg cod := mkC L_mlvl

theorem L_mlvl_ok : Snd Try.prog cod L_mlvl := .consI mlvl_sound L_hlea_ok



def cuts_ment : Cuts := [(9, [29, 2, 1, 0, 30, 8], 1), (100014, [2, 1, 8, 0], 1)]
def cuts_ment_r14 : Cuts := [(9, [29, 2, 1, 0, 30, 8], 1)]

theorem ment_t0 (lo hi st : Int) (L : Nat → F.HL) (la : Int) (c : List UInt8) (t : Int) : symI C_mlvl cuts_ment Try.f21.results.toList ([.sarr [.int .i64 lo, .int .i64 hi, .int .i64 st] 1 32 (F.lv L) [.int .i64 la] 60] : Heap cod) 400 [.code (codeOf Try.f21)] ⟨argsS Try.f21 [.c (.ptr 0 0 0), .c (.str c), .c (.int .i64 t)], ([.sarr [.int .i64 lo, .int .i64 hi, .int .i64 st] 1 32 (F.lv L) [.int .i64 la] 60] : Heap cod)⟩ =
 cond (!F.named c) (
 .ret (.fin (.tup [.c (.int .i64 0), .c (.int .i64 6)]) [.sarr [.int .i64 lo, .int .i64 hi, .int .i64 st] 1 32 (F.lv L) [.int .i64 la] 60])) (
 .need (F.lv L = F.lv (F.un (F.lv L))) (
 cond (decide (0 ≤ F.find (F.un (F.lv L)) c)) (
  .ret (.fin (.tup [.c (.int .i64 0), .c (.int .i64 7)]) [.sarr [.int .i64 lo, .int .i64 hi, .int .i64 st] 1 32 (F.lv L) [.int .i64 la] 60])) (
  cond (!F.inb t la 200000) (
   .ret (.fin (.tup [.c (.int .i64 0), .c (.int .i64 12)]) [.sarr [.int .i64 lo, .int .i64 hi, .int .i64 st] 1 32 (F.lv L) [.int .i64 la] 60])) (
   .ret (.cut (cutAt Try.f21 9) ⟨tmG 40 [(0, .c (.ptr 0 0 0)), (0, .c (.str c)), (0, .c (.int .i64 t)), (5, .c (.int .i64 0)), (20, .agg (F.lvc L)), (0, .c (.int .i64 0))], [.sarr [.int .i64 lo, .int .i64 hi, .int .i64 st] 1 32 (F.lv L) [.int .i64 la] 60]⟩))))) := by kernel_rfl


noncomputable def st_ment_9 (lo hi st : Int) (L : Nat → F.HL) (la : Int) (c : List UInt8) (t : Int) (a i : Int) : St cod := ⟨tmG 40 [(0, .c (.ptr 0 0 0)), (0, .c (.str c)), (0, .c (.int .i64 t)), (5, .c (.int .i64 a)), (20, .agg (F.lvc L)), (0, .c (.int .i64 i))], [.sarr [.int .i64 lo, .int .i64 hi, .int .i64 st] 1 32 (F.lv L) [.int .i64 la] 60]⟩


theorem ment_t9 (lo hi st : Int) (L : Nat → F.HL) (la : Int) (c : List UInt8) (t : Int) (a i : Int) : symI C_mlvl cuts_ment Try.f21.results.toList ([.sarr [.int .i64 lo, .int .i64 hi, .int .i64 st] 1 32 (F.lv L) [.int .i64 la] 60] : Heap cod) 400 (cutAt Try.f21 9) (st_ment_9 lo hi st L la c t a i) =
 cond (decide (i < 32)) (
 .need (((0 : Int) ≤ i ∧ i < Int.ofNat 32)) (
 cond (!decide     ((List.getD           (F.lv L)           (Int.toNat i) (cod 1).d).1 =       [])) (
  .need (i64ok (i + 1)) (
  .need (i64ok (i + 1)) (
  .ret (.cut (cutAt Try.f21 9) ⟨tmG 40 [(0, .c (.ptr 0 0 0)), (0, .c (.str c)), (0, .c (.int .i64 t)), (5, .c (.int .i64 (i + 1))), (20, .agg (F.lvc L)), (0, .c (.int .i64 (i + 1)))], [.sarr [.int .i64 lo, .int .i64 hi, .int .i64 st] 1 32 (F.lv L) [.int .i64 la] 60]⟩)))) (
  .need (i64ok (i + 1)) (
  .ret (.cut (cutAt Try.f21 9) ⟨tmG 40 [(0, .c (.ptr 0 0 0)), (0, .c (.str c)), (0, .c (.int .i64 t)), (5, .c (.int .i64 a)), (20, .agg (F.lvc L)), (0, .c (.int .i64 (i + 1)))], [.sarr [.int .i64 lo, .int .i64 hi, .int .i64 st] 1 32 (F.lv L) [.int .i64 la] 60]⟩))))) (
 .ret (.cut (regAt Try.f21 14) ⟨tmG 62 [(0, .c (.ptr 0 0 0)), (0, .c (.str c)), (0, .c (.int .i64 t)), (5, .c (.int .i64 a))], [.sarr [.int .i64 lo, .int .i64 hi, .int .i64 st] 1 32 (F.lv L) [.int .i64 la] 60]⟩)) := by kernel_rfl


noncomputable def st_ment_r14 (lo hi st : Int) (L : Nat → F.HL) (la : Int) (c : List UInt8) (t : Int) (a i : Int) : St cod := ⟨tmG 62 [(0, .c (.ptr 0 0 0)), (0, .c (.str c)), (0, .c (.int .i64 t)), (5, .c (.int .i64 a))], [.sarr [.int .i64 lo, .int .i64 hi, .int .i64 st] 1 32 (F.lv L) [.int .i64 la] 60]⟩


theorem ment_tr14 (lo hi st : Int) (L : Nat → F.HL) (la : Int) (c : List UInt8) (t : Int) (a i : Int) : symI C_mlvl cuts_ment_r14 Try.f21.results.toList ([.sarr [.int .i64 lo, .int .i64 hi, .int .i64 st] 1 32 (F.lv L) [.int .i64 la] 60] : Heap cod) 400 (regAt Try.f21 14) (st_ment_r14 lo hi st L la c t a i) =
.need (F.lv L = F.lv (F.un (F.lv L))) (
.need ((((0 : Int) ≤ lo ∧ (lo ≤ hi ∧ hi ≤ 100000)) ∧ (1 : Int) ≤ st)) (
 cond (decide (F.lvls lo hi st ≤ a)) (
 .ret (.fin (.tup [.c (.int .i64 0), .c (.int .i64 9)]) [.sarr [.int .i64 lo, .int .i64 hi, .int .i64 st] 1 32 (F.lv L) [.int .i64 la] 60])) (
 .need (i64ok (a * st)) (
 .need (i64ok (lo + a * st)) (
 .need (((0 : Int) ≤ a ∧ a < Int.ofNat 32)) (
 .need (Int.toNat a < 32) (
 .ret (.fin (.tup [.c (.int .i64 (lo + a * st)), .c (.int .i64 0)]) [.sarr [.int .i64 lo, .int .i64 hi, .int .i64 st] 1 32 (List.set (F.lv L) (Int.toNat a) (c, lo + a * st, t)) [.int .i64 t] 60])))))))) := by kernel_rfl



theorem ment_run (lo hi st : Int) (L : Nat → F.HL) (la : Int) (c : List UInt8) (t : Int) (b0 : Base) (hb : b0.n = 1) (h0 : F.big L) (h1 : 0 ≤ lo ∧ lo ≤ hi ∧ hi ≤ 100000) (h2 : 1 ≤ st ∧ st ≤ 100000) (h3 : F.lvls lo hi st ≤ 32) : Sym.Runs Try.prog b0 [.code (codeOf Try.f21)] ⟨argsS Try.f21 [.c (.ptr 0 0 0), .c (.str c), .c (.int .i64 t)], ([.sarr [.int .i64 lo, .int .i64 hi, .int .i64 st] 1 32 (F.lv L) [.int .i64 la] 60] : Heap cod)⟩ (Sym.EndsI Try.prog Try.f21 ([.sarr [.int .i64 lo, .int .i64 hi, .int .i64 st] 1 32 (F.lv L) [.int .i64 la] 60] : Heap cod) (.tup [.c (.int .i64 (F.mentV lo hi st L la c t)), .c (.int .i64 (F.mentE lo hi st L la c t))]) [.sarr [.int .i64 lo, .int .i64 hi, .int .i64 st] 1 32 (F.lv (F.mentL lo hi st L la c t)) [.int .i64 (F.mentT lo hi st L la c t)] 60]) := by
  have hun := un_lv h0
  have htop := top_le L
  have bad : ∀ e : Int, e ≠ 0 → F.mentE lo hi st L la c t = e → (SV.tup [.c (.int .i64 0), .c (.int .i64 e)] : SV) = .tup [.c (.int .i64 (F.mentV lo hi st L la c t)), .c (.int .i64 (F.mentE lo hi st L la c t))] ∧ ([.sarr [.int .i64 lo, .int .i64 hi, .int .i64 st] 1 32 (F.lv L) [.int .i64 la] 60] : Heap cod) = [.sarr [.int .i64 lo, .int .i64 hi, .int .i64 st] 1 32 (F.lv (F.mentL lo hi st L la c t)) [.int .i64 (F.mentT lo hi st L la c t)] 60] := by
    intro e he eE
    have e1 : F.mentL lo hi st L la c t = L := by unfold F.mentL; rw [if_neg (by rw [eE]; exact he)]
    have e2 : F.mentV lo hi st L la c t = 0 := by unfold F.mentV; rw [if_neg (by rw [eE]; exact he)]
    have e3 : F.mentT lo hi st L la c t = la := by unfold F.mentT; rw [if_neg (by rw [eE]; exact he)]
    rw [eE, e1, e2, e3]
    exact ⟨rfl, rfl⟩
  have fin : F.named c = true → ¬ 0 ≤ F.find L c → F.inb t la 200000 = true → Sym.Runs Try.prog b0 (regAt Try.f21 14) (st_ment_r14 lo hi st L la c t (F.top L) 32) (Sym.EndsI Try.prog Try.f21 ([.sarr [.int .i64 lo, .int .i64 hi, .int .i64 st] 1 32 (F.lv L) [.int .i64 la] 60] : Heap cod) (.tup [.c (.int .i64 (F.mentV lo hi st L la c t)), .c (.int .i64 (F.mentE lo hi st L la c t))]) [.sarr [.int .i64 lo, .int .i64 hi, .int .i64 st] 1 32 (F.lv (F.mentL lo hi st L la c t)) [.int .i64 (F.mentT lo hi st L la c t)] 60]) := by
    intro c1 c2 c3
    refine Runs.goI (cfg := C_mlvl) L_mlvl_ok mixed cuts_ment_r14 400 (H := ([.sarr [.int .i64 lo, .int .i64 hi, .int .i64 st] 1 32 (F.lv L) [.int .i64 la] 60] : Heap cod)) hb (ment_tr14 lo hi st L la c t (F.top L) 32) ?_
    simp only [T.wp, T.wp_cond, Aft, Int.ofNat_eq_natCast, decide_eq_true_eq, and_true, true_and, Nat.zero_add, Bool.not_eq_true', decide_eq_false_iff_not]
    refine ⟨by rw [hun], ⟨h1, h2.1⟩, ?_⟩
    by_cases c4 : F.lvls lo hi st ≤ F.top L
    · exact ite_yes c4 (bad 9 (by decide) (by unfold F.mentE; rw [c1, if_pos rfl, if_neg c2, c3, if_pos rfl, if_pos c4]))
    · have eE : F.mentE lo hi st L la c t = 0 := by unfold F.mentE; rw [c1, if_pos rfl, if_neg c2, c3, if_pos rfl, if_neg c4]
      have e1 : F.mentL lo hi st L la c t = F.upd L (F.top L).toNat (c, lo + F.top L * st, t) := by unfold F.mentL; rw [if_pos eE]; rfl
      have e2 : F.mentV lo hi st L la c t = lo + F.top L * st := by unfold F.mentV; rw [if_pos eE]
      have e3 : F.mentT lo hi st L la c t = t := by unfold F.mentT; rw [if_pos eE]
      have hm1 : F.top L * st ≤ 32 * 100000 := Int.mul_le_mul (by omega) (by omega) (by omega) (by omega)
      have hm0 : 0 ≤ F.top L * st := Int.mul_nonneg (by omega) (by omega)
      rw [eE, e1, e2, e3, ← lv_upd]
      exact ite_no c4 ⟨by unfold Sym.i64ok; omega, by unfold Sym.i64ok; omega, ⟨by omega, by omega⟩, by omega, rfl, rfl⟩
  have key : F.named c = true → ¬ 0 ≤ F.find L c → F.inb t la 200000 = true → ∀ (m i : Nat) (a : Int), i + m = 32 → F.topG L m i a = F.top L → Sym.Runs Try.prog b0 (cutAt Try.f21 9) (st_ment_9 lo hi st L la c t a (i : Int)) (Sym.EndsI Try.prog Try.f21 ([.sarr [.int .i64 lo, .int .i64 hi, .int .i64 st] 1 32 (F.lv L) [.int .i64 la] 60] : Heap cod) (.tup [.c (.int .i64 (F.mentV lo hi st L la c t)), .c (.int .i64 (F.mentE lo hi st L la c t))]) [.sarr [.int .i64 lo, .int .i64 hi, .int .i64 st] 1 32 (F.lv (F.mentL lo hi st L la c t)) [.int .i64 (F.mentT lo hi st L la c t)] 60]) := by
    intro c1 c2 c3 m
    induction m with
    | zero =>
      intro i a hi' hR
      refine Runs.goI (cfg := C_mlvl) L_mlvl_ok mixed cuts_ment 400 (H := ([.sarr [.int .i64 lo, .int .i64 hi, .int .i64 st] 1 32 (F.lv L) [.int .i64 la] 60] : Heap cod)) hb (ment_t9 lo hi st L la c t a (i : Int)) ?_
      have hR' : a = F.top L := hR
      subst hR'
      simp only [T.wp, T.wp_cond, Aft, Int.ofNat_eq_natCast, decide_eq_true_eq, and_true, true_and, Nat.zero_add, Bool.not_eq_true', decide_eq_false_iff_not]
      exact ite_no (by omega) (fin c1 c2 c3)
    | succ m ih =>
      intro i a hi' hR
      refine Runs.goI (cfg := C_mlvl) L_mlvl_ok mixed cuts_ment 400 (H := ([.sarr [.int .i64 lo, .int .i64 hi, .int .i64 st] 1 32 (F.lv L) [.int .i64 la] 60] : Heap cod)) hb (ment_t9 lo hi st L la c t a (i : Int)) ?_
      have e : (F.lv L).getD i (cod 1).d = L i := lv_get L (by omega)
      have i1 : Sym.i64ok ((i : Int) + 1) := by unfold Sym.i64ok; omega
      have hu : F.topG L (m + 1) i a = F.topG L m (i + 1) (if F.occ (L i) then (i : Int) + 1 else a) := rfl
      rw [hu] at hR
      simp only [T.wp, T.wp_cond, Aft, Int.ofNat_eq_natCast, decide_eq_true_eq, and_true, true_and, Nat.zero_add, Bool.not_eq_true', decide_eq_false_iff_not, Int.toNat_natCast, e]
      refine ite_yes (by omega) ⟨⟨by omega, by omega⟩, ?_⟩
      by_cases c4 : (L i).1 = []
      · rw [if_neg (by rw [occ_iff]; exact fun q => q c4)] at hR
        exact ite_no (fun q => q c4) ⟨i1, ih (i + 1) a (by omega) hR⟩
      · rw [if_pos (occ_iff.2 c4)] at hR
        exact ite_yes c4 ⟨i1, i1, ih (i + 1) _ (by omega) hR⟩
  refine Runs.goI (cfg := C_mlvl) L_mlvl_ok mixed cuts_ment 400 (H := ([.sarr [.int .i64 lo, .int .i64 hi, .int .i64 st] 1 32 (F.lv L) [.int .i64 la] 60] : Heap cod)) hb (ment_t0 lo hi st L la c t) ?_
  simp only [T.wp, T.wp_cond, Aft, Int.ofNat_eq_natCast, decide_eq_true_eq, and_true, true_and, Nat.zero_add, Bool.not_eq_true', decide_eq_false_iff_not, hun]
  cases c1 : F.named c with
  | false => exact ite_yes rfl (bad 6 (by decide) (by unfold F.mentE; rw [c1]; rfl))
  | true =>
  refine ite_no (by decide) ?_
  by_cases c2 : 0 ≤ F.find L c
  · exact ite_yes c2 (bad 7 (by decide) (by unfold F.mentE; rw [c1, if_pos rfl, if_pos c2]))
  refine ite_no c2 ?_
  cases c3 : F.inb t la 200000 with
  | false => exact ite_yes rfl (bad 12 (by decide) (by unfold F.mentE; rw [c1, if_pos rfl, if_neg c2, c3]; rfl))
  | true => exact ite_no (by decide) (key c1 c2 c3 32 0 0 (by omega) rfl)



noncomputable def s_ment : Summ cod := fun args H => match args, H with
  | [.c (.ptr 0 0 0), .c (.str c), .c (.int .i64 t)], [o0] => (match o0.asSarr 1 32 60 with | some ([.int .i64 lo, .int .i64 hi, .int .i64 st], l0, [.int .i64 la]) => .need (l0 = F.lv (F.un l0)) (.need ((F.big (F.un l0)) ∧ (0 ≤ lo ∧ lo ≤ hi ∧ hi ≤ 100000) ∧ (1 ≤ st ∧ st ≤ 100000) ∧ (F.lvls lo hi st ≤ 32)) (.ret (.tup [.c (.int .i64 (F.mentV lo hi st (F.un l0) la c t)), .c (.int .i64 (F.mentE lo hi st (F.un l0) la c t))], [.sarr [.int .i64 lo, .int .i64 hi, .int .i64 st] 1 32 (F.lv (F.mentL lo hi st (F.un l0) la c t)) [.int .i64 (F.mentT lo hi st (F.un l0) la c t)] 60]))) | _ => .fail)
  | _, _ => .fail


theorem ment_sound : SoundI Try.prog cod 21 s_ment := tree_soundI (cfg := C_mlvl) Try.func21 rfl rfl _ fun args H r H' hg b0 hb => by
  unfold s_ment at hg
  split at hg
  · skip
    split at hg
    · rename_i lo hi st l0 la hx0
      cases asSarr_spec hx0
      clear hx0
      obtain ⟨hl0, hg⟩ := hg
      generalize F.un l0 = L at hl0 hg
      subst hl0
      obtain ⟨hq, hg⟩ := hg
      obtain ⟨q0, q1, q2, q3⟩ := hq
      cases hg
      exact ment_run _ _ _ _ _ _ _ b0 hb (by assumption) (by assumption) (by assumption) (by assumption)
    · exact hg.elim
  · exact hg.elim

noncomputable def L_ment : Sums cod := (21, .i s_ment) :: L_mlvl
noncomputable def C_ment : Cfg cod := mkC L_ment

theorem L_ment_ok : Snd Try.prog cod L_ment := .consI ment_sound L_mlvl_ok



def cuts_mdn : Cuts := [(6, [0, 7, 6], 1)]

theorem mdn_t0 (lo hi st : Int) (L : Nat → F.HL) (la : Int) (t : Int) : symI C_ment cuts_mdn Try.f23.results.toList ([.sarr [.int .i64 lo, .int .i64 hi, .int .i64 st] 1 32 (F.lv L) [.int .i64 la] 60] : Heap cod) 400 [.code (codeOf Try.f23)] ⟨argsS Try.f23 [.c (.ptr 0 0 0), .c (.int .i64 t)], ([.sarr [.int .i64 lo, .int .i64 hi, .int .i64 st] 1 32 (F.lv L) [.int .i64 la] 60] : Heap cod)⟩ =
 cond (!F.inb t la 200000) (
 .ret (.fin (.tup [.c (.int .i64 0), .c (.int .i64 12)]) [.sarr [.int .i64 lo, .int .i64 hi, .int .i64 st] 1 32 (F.lv L) [.int .i64 la] 60])) (
 .ret (.cut (cutAt Try.f23 6) ⟨tmG 73 [(0, .c (.ptr 0 0 0)), (5, .c (.int .i64 0)), (0, .c (.int .i64 1))], [.sarr [.int .i64 lo, .int .i64 hi, .int .i64 st] 1 32 (F.lv L) [.int .i64 t] 60]⟩)) := by kernel_rfl


noncomputable def st_mdn_6 (lo hi st : Int) (L : Nat → F.HL) (la : Int) (t : Int) (M : Nat → F.HL) (nl n i : Int) : St cod := ⟨tmG 73 [(0, .c (.ptr 0 0 0)), (5, .c (.int .i64 n)), (0, .c (.int .i64 i))], ([.sarr [.int .i64 lo, .int .i64 hi, .int .i64 st] 1 32 (F.lv (M)) [.int .i64 (nl)] 60] : Heap cod)⟩


theorem mdn_t6 (lo hi st : Int) (L : Nat → F.HL) (la : Int) (t : Int) (M : Nat → F.HL) (nl n i : Int) : symI C_ment cuts_mdn Try.f23.results.toList ([.sarr [.int .i64 lo, .int .i64 hi, .int .i64 st] 1 32 (F.lv L) [.int .i64 la] 60] : Heap cod) 400 (cutAt Try.f23 6) (st_mdn_6 lo hi st L la t M nl n i) =
 cond (decide (i < 32)) (
 .need (((0 : Int) ≤ i ∧ i < Int.ofNat 32)) (
 .need (Int.toNat i < 32) (
 cond (!decide ((List.getD (F.lv M) (Int.toNat i) (cod 1).d).1 = [])) (
  .need (i64ok (i - 1)) (
  .need (((0 : Int) ≤ i - 1 ∧ i - 1 < Int.ofNat 32)) (
  .need (Int.toNat (i - 1) < 32) (
  cond (decide ((List.getD (F.lv M) (Int.toNat (i - 1)) (cod 1).d).1 = [])) (
   .need (i64ok (i - 1)) (
   .need (((0 : Int) ≤ i ∧ i < Int.ofNat 32)) (
   .need (Int.toNat i < 32) (
   .need (((0 : Int) ≤ i - 1 ∧ i - 1 < Int.ofNat 32)) (
   .need (Int.toNat (i - 1) < 32) (
   .need (((0 : Int) ≤ i ∧ i < Int.ofNat 32)) (
   .need (Int.toNat i < 32) (
   .need (i64ok (i - 1)) (
   .need (((0 : Int) ≤ i - 1 ∧ i - 1 < Int.ofNat 32)) (
   .need (Int.toNat (i - 1) < 32) (
   .need (i64ok   ((List.getD           (List.set             (List.set (F.lv M) (Int.toNat (i - 1))               ((List.getD (F.lv M) (Int.toNat i) (cod 1).d).1, (List.getD (F.lv M) (Int.toNat i) (cod 1).d).2.1,                 (List.getD (F.lv M) (Int.toNat i) (cod 1).d).2.2))             (Int.toNat i) ([], 0, 0))           (Int.toNat (i - 1)) (cod 1).d).2.1 -     st)) (
   .need (((0 : Int) ≤ i - 1 ∧ i - 1 < Int.ofNat 32)) (
   .need (Int.toNat (i - 1) < 32) (
   .need (i64ok (n + 1)) (
   .need (i64ok (i + 1)) (
   .ret (.cut (cutAt Try.f23 6) ⟨tmG 73 [(0, .c (.ptr 0 0 0)), (5, .c (.int .i64 (n + 1))), (0, .c (.int .i64 (i + 1)))], [.sarr [.int .i64 lo, .int .i64 hi, .int .i64 st] 1 32 (List.set   (List.set     (List.set (F.lv M) (Int.toNat (i - 1))       ((List.getD (F.lv M) (Int.toNat i) (cod 1).d).1, (List.getD (F.lv M) (Int.toNat i) (cod 1).d).2.1,         (List.getD (F.lv M) (Int.toNat i) (cod 1).d).2.2))     (Int.toNat i) ([], 0, 0))   (Int.toNat (i - 1))   ((List.getD         (List.set           (List.set (F.lv M) (Int.toNat (i - 1))             ((List.getD (F.lv M) (Int.toNat i) (cod 1).d).1, (List.getD (F.lv M) (Int.toNat i) (cod 1).d).2.1,               (List.getD (F.lv M) (Int.toNat i) (cod 1).d).2.2))           (Int.toNat i) ([], 0, 0))         (Int.toNat (i - 1)) (cod 1).d).1,     (List.getD             (List.set               (List.set (F.lv M) (Int.toNat (i - 1))                 ((List.getD (F.lv M) (Int.toNat i) (cod 1).d).1, (List.getD (F.lv M) (Int.toNat i) (cod 1).d).2.1,                   (List.getD (F.lv M) (Int.toNat i) (cod 1).d).2.2))               (Int.toNat i) ([], 0, 0))             (Int.toNat (i - 1)) (cod 1).d).2.1 -       st,     (List.getD           (List.set             (List.set (F.lv M) (Int.toNat (i - 1))               ((List.getD (F.lv M) (Int.toNat i) (cod 1).d).1, (List.getD (F.lv M) (Int.toNat i) (cod 1).d).2.1,                 (List.getD (F.lv M) (Int.toNat i) (cod 1).d).2.2))             (Int.toNat i) ([], 0, 0))           (Int.toNat (i - 1)) (cod 1).d).2.2)) [.int .i64 nl] 60]⟩))))))))))))))))) (
   .need (i64ok (i + 1)) (
   .ret (.cut (cutAt Try.f23 6) ⟨tmG 73 [(0, .c (.ptr 0 0 0)), (5, .c (.int .i64 n)), (0, .c (.int .i64 (i + 1)))], [.sarr [.int .i64 lo, .int .i64 hi, .int .i64 st] 1 32 (F.lv M) [.int .i64 nl] 60]⟩))))))) (
  .need (i64ok (i + 1)) (
  .ret (.cut (cutAt Try.f23 6) ⟨tmG 73 [(0, .c (.ptr 0 0 0)), (5, .c (.int .i64 n)), (0, .c (.int .i64 (i + 1)))], [.sarr [.int .i64 lo, .int .i64 hi, .int .i64 st] 1 32 (F.lv M) [.int .i64 nl] 60]⟩)))))) (
 .ret (.fin (.tup [.c (.int .i64 n), .c (.int .i64 0)]) [.sarr [.int .i64 lo, .int .i64 hi, .int .i64 st] 1 32 (F.lv M) [.int .i64 nl] 60])) := by kernel_rfl



theorem mdn_run (lo hi st : Int) (L : Nat → F.HL) (la : Int) (t : Int) (b0 : Base) (hb : b0.n = 1) (h0 : F.mok L) (h1 : 0 ≤ st ∧ st ≤ 10000) : Sym.Runs Try.prog b0 [.code (codeOf Try.f23)] ⟨argsS Try.f23 [.c (.ptr 0 0 0), .c (.int .i64 t)], ([.sarr [.int .i64 lo, .int .i64 hi, .int .i64 st] 1 32 (F.lv L) [.int .i64 la] 60] : Heap cod)⟩ (Sym.EndsI Try.prog Try.f23 ([.sarr [.int .i64 lo, .int .i64 hi, .int .i64 st] 1 32 (F.lv L) [.int .i64 la] 60] : Heap cod) (.tup [.c (.int .i64 (F.mdnN st L la t)), .c (.int .i64 (F.mdnE la t))]) [.sarr [.int .i64 lo, .int .i64 hi, .int .i64 st] 1 32 (F.lv (F.mdnL st L la t)) [.int .i64 (F.mdnT la t)] 60]) := by
  have key : F.inb t la 200000 = true → ∀ (m i : Nat) (M : Nat → F.HL) (n : Int), i + m = 32 → 1 ≤ i → F.mdnG st m i M n = F.mdnG st 31 1 L 0 → 0 ≤ n → n ≤ i → (∀ k, -1000000 - 10000 * (i : Int) ≤ (M k).2.1 ∧ (M k).2.1 ≤ 1000000) → Sym.Runs Try.prog b0 (cutAt Try.f23 6) (st_mdn_6 lo hi st L la t M t n (i : Int)) (Sym.EndsI Try.prog Try.f23 ([.sarr [.int .i64 lo, .int .i64 hi, .int .i64 st] 1 32 (F.lv L) [.int .i64 la] 60] : Heap cod) (.tup [.c (.int .i64 (F.mdnN st L la t)), .c (.int .i64 (F.mdnE la t))]) [.sarr [.int .i64 lo, .int .i64 hi, .int .i64 st] 1 32 (F.lv (F.mdnL st L la t)) [.int .i64 (F.mdnT la t)] 60]) := by
    intro hw m
    have e1 : F.mdnL st L la t = (F.mdnG st 31 1 L 0).1 := by unfold F.mdnL; rw [if_pos hw]
    have e2 : F.mdnN st L la t = (F.mdnG st 31 1 L 0).2 := by unfold F.mdnN; rw [if_pos hw]
    have e3 : F.mdnE la t = 0 := by unfold F.mdnE; rw [if_pos hw]
    have e4 : F.mdnT la t = t := by unfold F.mdnT; rw [if_pos hw]
    rw [e1, e2, e3, e4]
    induction m with
    | zero =>
      intro i M n hi' h1i hR hn0 hn hB
      refine Runs.goI (cfg := C_ment) L_ment_ok mixed cuts_mdn 400 (H := ([.sarr [.int .i64 lo, .int .i64 hi, .int .i64 st] 1 32 (F.lv L) [.int .i64 la] 60] : Heap cod)) hb (mdn_t6 lo hi st L la t M t n (i : Int)) ?_
      rw [← hR]
      simp only [T.wp, T.wp_cond, Aft, Int.ofNat_eq_natCast, decide_eq_true_eq, and_true, true_and, Nat.zero_add, Bool.not_eq_true', decide_eq_false_iff_not]
      exact ite_no (by omega) ⟨rfl, rfl⟩
    | succ m ih =>
      intro i M n hi' h1i hR hn0 hn hB
      refine Runs.goI (cfg := C_ment) L_ment_ok mixed cuts_mdn 400 (H := ([.sarr [.int .i64 lo, .int .i64 hi, .int .i64 st] 1 32 (F.lv L) [.int .i64 la] 60] : Heap cod)) hb (mdn_t6 lo hi st L la t M t n (i : Int)) ?_
      have d0 : (cod 1).d = F.hl0 := rfl
      have ei : Int.toNat ((i : Int) - 1) = i - 1 := by omega
      have g1 : ∀ K : Nat → F.HL, (F.lv K).getD i F.hl0 = K i := fun K => lv_get K (by omega)
      have g2 : ∀ K : Nat → F.HL, (F.lv K).getD (i - 1) F.hl0 = K (i - 1) := fun K => lv_get K (by omega)
      have hi1 : i - 1 ≠ i := by omega
      have i1 : Sym.i64ok ((i : Int) + 1) := by unfold Sym.i64ok; omega
      have i2 : Sym.i64ok ((i : Int) - 1) := by unfold Sym.i64ok; omega
      have n1 : Sym.i64ok (n + 1) := by unfold Sym.i64ok; omega
      have hx := hB i
      have b1 : (0 : Int) ≤ i ∧ (i : Int) < 32 := by omega
      have b2 : (0 : Int) ≤ (i : Int) - 1 ∧ (i : Int) - 1 < 32 := by omega
      have b3 : i < 32 := by omega
      have b4 : i - 1 < 32 := by omega
      have hu : F.mdnG st (m + 1) i M n = if F.mdnS M i then F.mdnG st m (i + 1) (F.mdnU st M i) (n + 1) else F.mdnG st m (i + 1) M n := rfl
      rw [hu] at hR
      have go1 := ih (i + 1) M n (by omega) (by omega)
      have go2 := ih (i + 1) (F.mdnU st M i) (n + 1) (by omega) (by omega)
      have eU : F.upd (F.upd (F.upd M (i - 1) ((M i).1, (M i).2.1, (M i).2.2)) i ([], 0, 0)) (i - 1) ((M i).1, (M i).2.1 - st, (M i).2.2) = F.mdnU st M i := by
        funext k
        unfold F.mdnU F.upd
        by_cases q1 : k = i - 1
        · rw [if_pos q1, if_neg (by omega), if_pos q1]; rfl
        · rw [if_neg q1]
          by_cases q2 : k = i
          · rw [if_pos q2, if_pos q2]; rfl
          · rw [if_neg q2, if_neg q2, if_neg q1, if_neg q1]
      have eS : (((F.lv M).set (i - 1) ((M i).1, (M i).2.1, (M i).2.2)).set i ([], 0, 0)).set (i - 1) ((M i).1, (M i).2.1 - st, (M i).2.2) = F.lv (F.mdnU st M i) := by rw [lv_upd, lv_upd, lv_upd, eU]
      unfold st_mdn_6 at go2
      rw [← eS] at go2
      simp only [T.wp, T.wp_cond, Aft, Int.ofNat_eq_natCast, decide_eq_true_eq, and_true, true_and, Nat.zero_add, Bool.not_eq_true', decide_eq_false_iff_not, Int.toNat_natCast, d0, ei, lv_upd, g1, g2, upd_other _ _ hi1, upd_same]
      refine ite_yes (by omega) ⟨b1, b3, ?_⟩
      have keep : F.mdnS M i = false → Sym.Runs Try.prog b0 (cutAt Try.f23 6) (st_mdn_6 lo hi st L la t M t n ((i : Int) + 1)) _ := fun q => go1 (by rw [q, if_neg (by decide)] at hR; exact hR) hn0 (by omega) (fun k => by have := hB k; omega)
      by_cases c1 : (M i).1 = []
      · exact ite_no (fun q => q c1) ⟨i1, keep (by unfold F.mdnS F.occ; rw [decide_eq_true c1]; rfl)⟩
      · refine ite_yes c1 ⟨i2, b2, b4, ?_⟩
        by_cases c2 : (M (i - 1)).1 = []
        · have q : F.mdnS M i = true := by unfold F.mdnS F.occ; rw [decide_eq_true c2, decide_eq_false c1]; rfl
          rw [q, if_pos rfl] at hR
          refine ite_yes c2 ⟨i2, b1, b3, b2, b4, b1, b3, i2, b2, b4, by unfold Sym.i64ok; omega, b2, b4, n1, i1, go2 hR (by omega) (by omega) (fun k => ?_)⟩
          unfold F.mdnU F.upd
          by_cases q2 : k = i
          · rw [if_pos q2]
            show -1000000 - 10000 * ((i + 1 : Nat) : Int) ≤ 0 ∧ (0 : Int) ≤ 1000000
            omega
          · rw [if_neg q2]
            by_cases q1 : k = i - 1
            · rw [if_pos q1]
              show -1000000 - 10000 * ((i + 1 : Nat) : Int) ≤ (M i).2.1 - st ∧ (M i).2.1 - st ≤ 1000000
              omega
            · rw [if_neg q1]
              have := hB k
              omega
        · exact ite_no c2 ⟨i1, keep (by unfold F.mdnS F.occ; rw [decide_eq_false c2, decide_eq_false c1]; rfl)⟩
  refine Runs.goI (cfg := C_ment) L_ment_ok mixed cuts_mdn 400 (H := ([.sarr [.int .i64 lo, .int .i64 hi, .int .i64 st] 1 32 (F.lv L) [.int .i64 la] 60] : Heap cod)) hb (mdn_t0 lo hi st L la t) ?_
  simp only [T.wp, T.wp_cond, Aft, Int.ofNat_eq_natCast, decide_eq_true_eq, and_true, true_and, Nat.zero_add, Bool.not_eq_true', decide_eq_false_iff_not]
  cases hw : F.inb t la 200000 with
  | false =>
    have e1 : F.mdnL st L la t = L := by unfold F.mdnL; rw [hw]; rfl
    have e2 : F.mdnN st L la t = 0 := by unfold F.mdnN; rw [hw]; rfl
    have e3 : F.mdnE la t = 12 := by unfold F.mdnE; rw [hw]; rfl
    have e4 : F.mdnT la t = la := by unfold F.mdnT; rw [hw]; rfl
    rw [e1, e2, e3, e4]
    exact ite_yes rfl ⟨rfl, rfl⟩
  | true => exact ite_no (by decide) (key hw 31 1 L 0 (by omega) (by omega) rfl (by omega) (by omega) (fun k => by have := (h0 k).1; omega))



noncomputable def s_mdn : Summ cod := fun args H => match args, H with
  | [.c (.ptr 0 0 0), .c (.int .i64 t)], [o0] => (match o0.asSarr 1 32 60 with | some ([.int .i64 lo, .int .i64 hi, .int .i64 st], l0, [.int .i64 la]) => .need (l0 = F.lv (F.un l0)) (.need ((F.mok (F.un l0)) ∧ (0 ≤ st ∧ st ≤ 10000)) (.ret (.tup [.c (.int .i64 (F.mdnN st (F.un l0) la t)), .c (.int .i64 (F.mdnE la t))], [.sarr [.int .i64 lo, .int .i64 hi, .int .i64 st] 1 32 (F.lv (F.mdnL st (F.un l0) la t)) [.int .i64 (F.mdnT la t)] 60]))) | _ => .fail)
  | _, _ => .fail


theorem mdn_sound : SoundI Try.prog cod 23 s_mdn := tree_soundI (cfg := C_ment) Try.func23 rfl rfl _ fun args H r H' hg b0 hb => by
  unfold s_mdn at hg
  split at hg
  · skip
    split at hg
    · rename_i lo hi st l0 la hx0
      cases asSarr_spec hx0
      clear hx0
      obtain ⟨hl0, hg⟩ := hg
      generalize F.un l0 = L at hl0 hg
      subst hl0
      obtain ⟨hq, hg⟩ := hg
      obtain ⟨q0, q1⟩ := hq
      cases hg
      exact mdn_run _ _ _ _ _ _ b0 hb (by assumption) (by assumption)
    · exact hg.elim
  · exact hg.elim

noncomputable def L_mdn : Sums cod := (23, .i s_mdn) :: L_ment
noncomputable def C_mdn : Cfg cod := mkC L_mdn

theorem L_mdn_ok : Snd Try.prog cod L_mdn := .consI mdn_sound L_ment_ok



def cuts_mlea : Cuts := [(7, [0, 2, 8, 23, 24], 1)]

theorem mlea_t0 (lo hi st : Int) (L : Nat → F.HL) (la : Int) (c : List UInt8) (t : Int) : symI C_mdn cuts_mlea Try.f25.results.toList ([.sarr [.int .i64 lo, .int .i64 hi, .int .i64 st] 1 32 (F.lv L) [.int .i64 la] 60] : Heap cod) 400 [.code (codeOf Try.f25)] ⟨argsS Try.f25 [.c (.ptr 0 0 0), .c (.str c), .c (.int .i64 t)], ([.sarr [.int .i64 lo, .int .i64 hi, .int .i64 st] 1 32 (F.lv L) [.int .i64 la] 60] : Heap cod)⟩ =
.need (F.lv L = F.lv (F.un (F.lv L))) (
 cond (decide (F.find (F.un (F.lv L)) c < 0)) (
 .ret (.fin (.tup [.c (.int .i64 0), .c (.int .i64 8)]) [.sarr [.int .i64 lo, .int .i64 hi, .int .i64 st] 1 32 (F.lv L) [.int .i64 la] 60])) (
 cond (!F.inb t la 200000) (
  .ret (.fin (.tup [.c (.int .i64 0), .c (.int .i64 12)]) [.sarr [.int .i64 lo, .int .i64 hi, .int .i64 st] 1 32 (F.lv L) [.int .i64 la] 60])) (
  .ret (.cut (cutAt Try.f25 7) ⟨tmG 31 [(0, .c (.ptr 0 0 0)), (1, .c (.int .i64 t)), (5, .c (.int .i64 (F.find (F.un (F.lv L)) c))), (14, .c (.int .i64 (F.find (F.un (F.lv L)) c))), (0, .c (.int .i64 0))], [.sarr [.int .i64 lo, .int .i64 hi, .int .i64 st] 1 32 (F.lv L) [.int .i64 la] 60]⟩)))) := by kernel_rfl


noncomputable def st_mlea_7 (lo hi st : Int) (L : Nat → F.HL) (la : Int) (c : List UInt8) (t : Int) (a i : Int) : St cod := ⟨tmG 31 [(0, .c (.ptr 0 0 0)), (1, .c (.int .i64 t)), (5, .c (.int .i64 a)), (14, .c (.int .i64 a)), (0, .c (.int .i64 i))], [.sarr [.int .i64 lo, .int .i64 hi, .int .i64 st] 1 32 (F.lv L) [.int .i64 la] 60]⟩


theorem mlea_t7 (lo hi st : Int) (L : Nat → F.HL) (la : Int) (c : List UInt8) (t : Int) (a i : Int) : symI C_mdn cuts_mlea Try.f25.results.toList ([.sarr [.int .i64 lo, .int .i64 hi, .int .i64 st] 1 32 (F.lv L) [.int .i64 la] 60] : Heap cod) 400 (cutAt Try.f25 7) (st_mlea_7 lo hi st L la c t a i) =
 cond (decide (i < a)) (
 .need (((0 : Int) ≤ i ∧ i < Int.ofNat 32)) (
 .need (Int.toNat i < 32) (
 cond (!decide ((List.getD (F.lv L) (Int.toNat i) (cod 1).d).1 = [])) (
  .ret (.fin (.tup [.c (.int .i64 0), .c (.int .i64 11)]) [.sarr [.int .i64 lo, .int .i64 hi, .int .i64 st] 1 32 (F.lv L) [.int .i64 la] 60])) (
  .need (i64ok (i + 1)) (
  .ret (.cut (cutAt Try.f25 7) ⟨tmG 31 [(0, .c (.ptr 0 0 0)), (1, .c (.int .i64 t)), (5, .c (.int .i64 a)), (14, .c (.int .i64 a)), (0, .c (.int .i64 (i + 1)))], [.sarr [.int .i64 lo, .int .i64 hi, .int .i64 st] 1 32 (F.lv L) [.int .i64 la] 60]⟩)))))) (
 .need (((0 : Int) ≤ a ∧ a < Int.ofNat 32)) (
 .need (Int.toNat a < 32) (
 .need (((0 : Int) ≤ a ∧ a < Int.ofNat 32)) (
 .need (Int.toNat a < 32) (
 .need (i64ok (t - (List.getD (F.lv L) (Int.toNat a) (cod 1).d).2.2)) (
 .ret (.fin (.tup [.c (.int .i64 (t - (List.getD (F.lv L) (Int.toNat a) (cod 1).d).2.2)), .c (.int .i64 0)]) [.sarr [.int .i64 lo, .int .i64 hi, .int .i64 st] 1 32 (List.set (F.lv L) (Int.toNat a) ([], 0, 0)) [.int .i64 t] 60]))))))) := by kernel_rfl



theorem mlea_run (lo hi st : Int) (L : Nat → F.HL) (la : Int) (c : List UInt8) (t : Int) (b0 : Base) (hb : b0.n = 1) (h0 : F.big L) (h1 : F.mok L) (h2 : 0 ≤ la) : Sym.Runs Try.prog b0 [.code (codeOf Try.f25)] ⟨argsS Try.f25 [.c (.ptr 0 0 0), .c (.str c), .c (.int .i64 t)], ([.sarr [.int .i64 lo, .int .i64 hi, .int .i64 st] 1 32 (F.lv L) [.int .i64 la] 60] : Heap cod)⟩ (Sym.EndsI Try.prog Try.f25 ([.sarr [.int .i64 lo, .int .i64 hi, .int .i64 st] 1 32 (F.lv L) [.int .i64 la] 60] : Heap cod) (.tup [.c (.int .i64 (F.mleaV L la c t)), .c (.int .i64 (F.mleaE L la c t))]) [.sarr [.int .i64 lo, .int .i64 hi, .int .i64 st] 1 32 (F.lv (F.mleaL L la c t)) [.int .i64 (F.mleaT L la c t)] 60]) := by
  have hun := un_lv h0
  have bad : ∀ e : Int, e ≠ 0 → F.mleaE L la c t = e → (SV.tup [.c (.int .i64 0), .c (.int .i64 e)] : SV) = .tup [.c (.int .i64 (F.mleaV L la c t)), .c (.int .i64 (F.mleaE L la c t))] ∧ ([.sarr [.int .i64 lo, .int .i64 hi, .int .i64 st] 1 32 (F.lv L) [.int .i64 la] 60] : Heap cod) = [.sarr [.int .i64 lo, .int .i64 hi, .int .i64 st] 1 32 (F.lv (F.mleaL L la c t)) [.int .i64 (F.mleaT L la c t)] 60] := by
    intro e he eE
    have e1 : F.mleaL L la c t = L := by unfold F.mleaL; rw [if_neg (by rw [eE]; exact he)]
    have e2 : F.mleaV L la c t = 0 := by unfold F.mleaV; rw [if_neg (by rw [eE]; exact he)]
    have e3 : F.mleaT L la c t = la := by unfold F.mleaT; rw [if_neg (by rw [eE]; exact he)]
    rw [eE, e1, e2, e3]
    exact ⟨rfl, rfl⟩
  have key : ¬ F.find L c < 0 → F.inb t la 200000 = true → ∀ (m i : Nat), i + m = (F.find L c).toNat → F.anyG L m i = F.anyG L (F.find L c).toNat 0 → Sym.Runs Try.prog b0 (cutAt Try.f25 7) (st_mlea_7 lo hi st L la c t (F.find L c) (i : Int)) (Sym.EndsI Try.prog Try.f25 ([.sarr [.int .i64 lo, .int .i64 hi, .int .i64 st] 1 32 (F.lv L) [.int .i64 la] 60] : Heap cod) (.tup [.c (.int .i64 (F.mleaV L la c t)), .c (.int .i64 (F.mleaE L la c t))]) [.sarr [.int .i64 lo, .int .i64 hi, .int .i64 st] 1 32 (F.lv (F.mleaL L la c t)) [.int .i64 (F.mleaT L la c t)] 60]) := by
    intro c1 c2 m
    have hf := find_lt L c
    have d0 : (cod 1).d = F.hl0 := rfl
    induction m with
    | zero =>
      intro i hi' hR
      refine Runs.goI (cfg := C_mdn) L_mdn_ok mixed cuts_mlea 400 (H := ([.sarr [.int .i64 lo, .int .i64 hi, .int .i64 st] 1 32 (F.lv L) [.int .i64 la] 60] : Heap cod)) hb (mlea_t7 lo hi st L la c t (F.find L c) (i : Int)) ?_
      have hE : F.anyG L (F.find L c).toNat 0 = false := hR.symm
      have eE : F.mleaE L la c t = 0 := by unfold F.mleaE; rw [if_neg c1, if_pos c2, hE]; rfl
      have e1 : F.mleaL L la c t = F.upd L (F.find L c).toNat ([], 0, 0) := by unfold F.mleaL; rw [if_pos eE]; rfl
      have e2 : F.mleaV L la c t = t - (L (F.find L c).toNat).2.2 := by unfold F.mleaV; rw [if_pos eE]
      have e3 : F.mleaT L la c t = t := by unfold F.mleaT; rw [if_pos eE]
      have hg := (h1 (F.find L c).toNat).2
      have htt : la ≤ t ∧ t ≤ 200000 := by
        unfold F.inb at c2
        simpa using c2
      have g1 : (F.lv L).getD (F.find L c).toNat F.hl0 = L (F.find L c).toNat := lv_get L (by omega)
      rw [eE, e1, e2, e3, ← lv_upd]
      simp only [T.wp, T.wp_cond, Aft, Int.ofNat_eq_natCast, decide_eq_true_eq, and_true, true_and, Nat.zero_add, Bool.not_eq_true', decide_eq_false_iff_not, d0, g1]
      exact ite_no (by omega) ⟨⟨by omega, by omega⟩, by omega, ⟨by omega, by omega⟩, by omega, by unfold Sym.i64ok; omega, rfl⟩
    | succ m ih =>
      intro i hi' hR
      refine Runs.goI (cfg := C_mdn) L_mdn_ok mixed cuts_mlea 400 (H := ([.sarr [.int .i64 lo, .int .i64 hi, .int .i64 st] 1 32 (F.lv L) [.int .i64 la] 60] : Heap cod)) hb (mlea_t7 lo hi st L la c t (F.find L c) (i : Int)) ?_
      have g1 : (F.lv L).getD i F.hl0 = L i := lv_get L (by omega)
      have i1 : Sym.i64ok ((i : Int) + 1) := by unfold Sym.i64ok; omega
      have hu : F.anyG L (m + 1) i = (F.occ (L i) || F.anyG L m (i + 1)) := rfl
      rw [hu] at hR
      simp only [T.wp, T.wp_cond, Aft, Int.ofNat_eq_natCast, decide_eq_true_eq, and_true, true_and, Nat.zero_add, Bool.not_eq_true', decide_eq_false_iff_not, Int.toNat_natCast, d0, g1]
      refine ite_yes (by omega) ⟨⟨by omega, by omega⟩, by omega, ?_⟩
      by_cases c4 : (L i).1 = []
      · have q : F.occ (L i) = false := by unfold F.occ; rw [decide_eq_true c4]; rfl
        rw [q, Bool.false_or] at hR
        exact ite_no (fun q => q c4) ⟨i1, ih (i + 1) (by omega) hR⟩
      · rw [occ_iff.2 c4, Bool.true_or] at hR
        exact ite_yes c4 (bad 11 (by decide) (by unfold F.mleaE; rw [if_neg c1, if_pos c2, ← hR]; rfl))
  refine Runs.goI (cfg := C_mdn) L_mdn_ok mixed cuts_mlea 400 (H := ([.sarr [.int .i64 lo, .int .i64 hi, .int .i64 st] 1 32 (F.lv L) [.int .i64 la] 60] : Heap cod)) hb (mlea_t0 lo hi st L la c t) ?_
  simp only [T.wp, T.wp_cond, Aft, Int.ofNat_eq_natCast, decide_eq_true_eq, and_true, true_and, Nat.zero_add, Bool.not_eq_true', decide_eq_false_iff_not, hun]
  by_cases c1 : F.find L c < 0
  · exact ite_yes c1 (bad 8 (by decide) (by unfold F.mleaE; rw [if_pos c1]))
  refine ite_no c1 ?_
  cases c2 : F.inb t la 200000 with
  | false => exact ite_yes rfl (bad 12 (by decide) (by unfold F.mleaE; rw [if_neg c1, c2]; rfl))
  | true => exact ite_no (by decide) (key c1 c2 (F.find L c).toNat 0 (by omega) rfl)



noncomputable def s_mlea : Summ cod := fun args H => match args, H with
  | [.c (.ptr 0 0 0), .c (.str c), .c (.int .i64 t)], [o0] => (match o0.asSarr 1 32 60 with | some ([.int .i64 lo, .int .i64 hi, .int .i64 st], l0, [.int .i64 la]) => .need (l0 = F.lv (F.un l0)) (.need ((F.big (F.un l0)) ∧ (F.mok (F.un l0)) ∧ (0 ≤ la)) (.ret (.tup [.c (.int .i64 (F.mleaV (F.un l0) la c t)), .c (.int .i64 (F.mleaE (F.un l0) la c t))], [.sarr [.int .i64 lo, .int .i64 hi, .int .i64 st] 1 32 (F.lv (F.mleaL (F.un l0) la c t)) [.int .i64 (F.mleaT (F.un l0) la c t)] 60]))) | _ => .fail)
  | _, _ => .fail


theorem mlea_sound : SoundI Try.prog cod 25 s_mlea := tree_soundI (cfg := C_mdn) Try.func25 rfl rfl _ fun args H r H' hg b0 hb => by
  unfold s_mlea at hg
  split at hg
  · skip
    split at hg
    · rename_i lo hi st l0 la hx0
      cases asSarr_spec hx0
      clear hx0
      obtain ⟨hl0, hg⟩ := hg
      generalize F.un l0 = L at hl0 hg
      subst hl0
      obtain ⟨hq, hg⟩ := hg
      obtain ⟨q0, q1, q2⟩ := hq
      cases hg
      exact mlea_run _ _ _ _ _ _ _ b0 hb (by assumption) (by assumption) (by assumption)
    · exact hg.elim
  · exact hg.elim

noncomputable def L_mlea : Sums cod := (25, .i s_mlea) :: L_mdn
noncomputable def C_mlea : Cfg cod := mkC L_mlea

theorem L_mlea_ok : Snd Try.prog cod L_mlea := .consI mlea_sound L_mdn_ok



def cuts_mlst : Cuts := [(3, [9, 10, 3], 3)]

theorem mlst_t0 (lo hi st : Int) (L : Nat → F.HL) (la : Int) : symI C_mlea cuts_mlst Try.f28.results.toList ([.sarr [.int .i64 lo, .int .i64 hi, .int .i64 st] 1 32 (F.lv L) [.int .i64 la] 60] : Heap cod) 400 [.code (codeOf Try.f28)] ⟨argsS Try.f28 [.c (.ptr 0 0 0)], ([.sarr [.int .i64 lo, .int .i64 hi, .int .i64 st] 1 32 (F.lv L) [.int .i64 la] 60] : Heap cod)⟩ =
.ret (.cut (cutAt Try.f28 3) ⟨tmG 11 [(3, .c (.own 2 0)), (5, .agg (F.lvc L)), (0, .c (.int .i64 0))], [.sarr [.int .i64 lo, .int .i64 hi, .int .i64 st] 1 32 (F.lv L) [.int .i64 la] 60, .own 1 [] 57, .own 1 [] 57]⟩) := by kernel_rfl


noncomputable def st_mlst_3 (lo hi st : Int) (L : Nat → F.HL) (la : Int) (ts : List (List UInt8 × Int × Int)) (q : Nat) (i : Int) : St cod := ⟨tmG 11 [(3, .c (.own 2 q)), (5, .agg (F.lvc L)), (0, .c (.int .i64 i))], ([.sarr [.int .i64 lo, .int .i64 hi, .int .i64 st] 1 32 (F.lv L) [.int .i64 la] 60, .own 1 [] 57, .own 1 ts 57] : Heap cod)⟩


theorem mlst_t3 (lo hi st : Int) (L : Nat → F.HL) (la : Int) (ts : List (List UInt8 × Int × Int)) (q : Nat) (i : Int) : symI C_mlea cuts_mlst Try.f28.results.toList ([.sarr [.int .i64 lo, .int .i64 hi, .int .i64 st] 1 32 (F.lv L) [.int .i64 la] 60] : Heap cod) 400 (cutAt Try.f28 3) (st_mlst_3 lo hi st L la ts q i) =
 cond (decide (i < 32)) (
 .need (((0 : Int) ≤ i ∧ i < Int.ofNat 32)) (
 cond (!decide     ((List.getD           (F.lv L)           (Int.toNat i) (cod 1).d).1 =       [])) (
  .need (1 = 1) (
  .need (q + 1 ≤ 1000000) (
  .need (i64ok (i + 1)) (
  .ret (.cut (cutAt Try.f28 3) ⟨tmG 11 [(3, .c (.own 2 (q + 1))), (5, .agg (F.lvc L)), (0, .c (.int .i64 (i + 1)))], [.sarr [.int .i64 lo, .int .i64 hi, .int .i64 st] 1 32 (F.lv L) [.int .i64 la] 60, .own 1 [] 57, .own 1 (ts ++ ([((List.getD         (F.lv L)         (Int.toNat i) (cod 1).d).1,     (List.getD           (F.lv L)           (Int.toNat i) (cod 1).d).2.1,     (List.getD           (F.lv L)           (Int.toNat i) (cod 1).d).2.2)])) 57]⟩))))) (
  .need (i64ok (i + 1)) (
  .ret (.cut (cutAt Try.f28 3) ⟨tmG 11 [(3, .c (.own 2 (q))), (5, .agg (F.lvc L)), (0, .c (.int .i64 (i + 1)))], [.sarr [.int .i64 lo, .int .i64 hi, .int .i64 st] 1 32 (F.lv L) [.int .i64 la] 60, .own 1 [] 57, .own 1 ts 57]⟩))))) (
 .ret (.fin (.c (.own 1 (q))) [.sarr [.int .i64 lo, .int .i64 hi, .int .i64 st] 1 32 (F.lv L) [.int .i64 la] 60, .own 1 ts 57])) := by kernel_rfl



theorem mlst_run (lo hi st : Int) (L : Nat → F.HL) (la : Int) (b0 : Base) (hb : b0.n = 1)  : Sym.Runs Try.prog b0 [.code (codeOf Try.f28)] ⟨argsS Try.f28 [.c (.ptr 0 0 0)], ([.sarr [.int .i64 lo, .int .i64 hi, .int .i64 st] 1 32 (F.lv L) [.int .i64 la] 60] : Heap cod)⟩ (Sym.EndsI Try.prog Try.f28 ([.sarr [.int .i64 lo, .int .i64 hi, .int .i64 st] 1 32 (F.lv L) [.int .i64 la] 60] : Heap cod) (.c (.own 1 (List.length (F.mlst L)))) [.sarr [.int .i64 lo, .int .i64 hi, .int .i64 st] 1 32 (F.lv L) [.int .i64 la] 60, .own 1 (F.mlst L) 57]) := by
  have key : ∀ (m i : Nat) (ts : List F.HL), i + m = 32 → ts ++ ((F.lv L).drop i).filter F.occ = F.mlst L → ts.length ≤ i → Sym.Runs Try.prog b0 (cutAt Try.f28 3) (st_mlst_3 lo hi st L la ts ts.length (i : Int)) (Sym.EndsI Try.prog Try.f28 ([.sarr [.int .i64 lo, .int .i64 hi, .int .i64 st] 1 32 (F.lv L) [.int .i64 la] 60] : Heap cod) (.c (.own 1 (List.length (F.mlst L)))) [.sarr [.int .i64 lo, .int .i64 hi, .int .i64 st] 1 32 (F.lv L) [.int .i64 la] 60, .own 1 (F.mlst L) 57]) := by
    intro m
    have d0 : (cod 1).d = F.hl0 := rfl
    induction m with
    | zero =>
      intro i ts hi' hR hl
      refine Runs.goI (cfg := C_mlea) L_mlea_ok mixed cuts_mlst 400 (H := ([.sarr [.int .i64 lo, .int .i64 hi, .int .i64 st] 1 32 (F.lv L) [.int .i64 la] 60] : Heap cod)) hb (mlst_t3 lo hi st L la ts ts.length (i : Int)) ?_
      rw [List.drop_of_length_le (by rw [lv_len]; omega), List.filter_nil, List.append_nil] at hR
      subst hR
      simp only [T.wp, T.wp_cond, Aft, Int.ofNat_eq_natCast, decide_eq_true_eq, and_true, true_and, Nat.zero_add, Bool.not_eq_true', decide_eq_false_iff_not]
      exact ite_no (by omega) trivial
    | succ m ih =>
      intro i ts hi' hR hl
      refine Runs.goI (cfg := C_mlea) L_mlea_ok mixed cuts_mlst 400 (H := ([.sarr [.int .i64 lo, .int .i64 hi, .int .i64 st] 1 32 (F.lv L) [.int .i64 la] 60] : Heap cod)) hb (mlst_t3 lo hi st L la ts ts.length (i : Int)) ?_
      have g1 : (F.lv L).getD i F.hl0 = L i := lv_get L (by omega)
      have ed : (F.lv L).drop i = L i :: (F.lv L).drop (i + 1) := by
        rw [List.drop_eq_getElem_cons (by rw [lv_len]; omega), ← g1, List.getD_eq_getElem?_getD, List.getElem?_eq_getElem (by rw [lv_len]; omega)]
        rfl
      rw [ed] at hR
      have i1 : Sym.i64ok ((i : Int) + 1) := by unfold Sym.i64ok; omega
      have n1 := ih (i + 1) ts (by omega)
      have n2 := ih (i + 1) (ts ++ [L i]) (by omega)
      simp only [T.wp, T.wp_cond, Aft, Int.ofNat_eq_natCast, decide_eq_true_eq, and_true, true_and, Nat.zero_add, Bool.not_eq_true', decide_eq_false_iff_not, Int.toNat_natCast, d0, g1]
      refine ite_yes (by omega) ⟨⟨by omega, by omega⟩, ?_⟩
      by_cases c4 : (L i).1 = []
      · rw [List.filter_cons_of_neg (by rw [occ_iff]; exact fun q => q c4)] at hR
        exact ite_no (fun q => q c4) ⟨i1, n1 hR (by omega)⟩
      · rw [List.filter_cons_of_pos (occ_iff.2 c4)] at hR
        have el : (ts ++ [L i]).length = ts.length + 1 := by simp
        rw [el] at n2
        exact ite_yes c4 ⟨by omega, i1, n2 (by rw [← hR]; simp) (by omega)⟩
  refine Runs.goI (cfg := C_mlea) L_mlea_ok mixed cuts_mlst 400 (H := ([.sarr [.int .i64 lo, .int .i64 hi, .int .i64 st] 1 32 (F.lv L) [.int .i64 la] 60] : Heap cod)) hb (mlst_t0 lo hi st L la) ?_
  simp only [T.wp, T.wp_cond, Aft, Int.ofNat_eq_natCast, decide_eq_true_eq, and_true, true_and, Nat.zero_add, Bool.not_eq_true', decide_eq_false_iff_not]
  exact key 32 0 [] (by omega) rfl (by simp)



noncomputable def s_mlst : Summ cod := fun args H => match args, H with
  | [.c (.ptr 0 0 0)], [o0] => (match o0.asSarr 1 32 60 with | some ([.int .i64 lo, .int .i64 hi, .int .i64 st], l0, [.int .i64 la]) => .need (l0 = F.lv (F.un l0)) (.ret (.c (.own 1 (List.length (F.mlst (F.un l0)))), [.sarr [.int .i64 lo, .int .i64 hi, .int .i64 st] 1 32 l0 [.int .i64 la] 60, .own 1 (F.mlst (F.un l0)) 57])) | _ => .fail)
  | _, _ => .fail


theorem mlst_sound : SoundI Try.prog cod 28 s_mlst := tree_soundI (cfg := C_mlea) Try.func28 rfl rfl _ fun args H r H' hg b0 hb => by
  unfold s_mlst at hg
  split at hg
  · skip
    split at hg
    · rename_i lo hi st l0 la hx0
      cases asSarr_spec hx0
      clear hx0
      obtain ⟨hl0, hg⟩ := hg
      generalize F.un l0 = L at hl0 hg
      subst hl0
      cases hg
      exact mlst_run _ _ _ _ _ b0 hb 
    · exact hg.elim
  · exact hg.elim

noncomputable def L_mlst : Sums cod := (28, .i s_mlst) :: L_mlea
noncomputable def C_mlst : Cfg cod := mkC L_mlst

theorem L_mlst_ok : Snd Try.prog cod L_mlst := .consI mlst_sound L_mlea_ok


end
end Go.Proofs.Ytgmnfdmlidhbcaa
