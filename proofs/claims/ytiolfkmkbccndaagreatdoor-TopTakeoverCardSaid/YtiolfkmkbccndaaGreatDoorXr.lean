/- Part of a claim: lemmas on the way to its theorem; each states its own conditions. -/
import Derived.Test.YtiolfkmkbccndaaGreatDoorBd35
namespace Go.Proofs.YtiolfkmkbccndaaGreatDoor
open Sym Go.RowKit
noncomputable section
set_option maxRecDepth 100000
set_option maxHeartbeats 4000000



namespace F
def grE (l : List Row) (k more : List UInt8) : Int :=
  if ctH more = false then 5 else if has l k = false then 8 else if ctH (val l k) = false then 11 else if atN (val l k) + atN more < -1000000000 ∨ 1000000000 < atN (val l k) + atN more then 4 else 0
def grR (l : List Row) (k more : List UInt8) : List Row := if grE l k more = 0 then wth k (itoaZ (atN (val l k) + atN more)) false l else []
end F


theorem value_len {s : List UInt8} (h : F.value s = true) : s.length ≤ 40 := by
  unfold F.value at h
  rw [Bool.and_eq_true, decide_eq_true_eq] at h
  exact h.2
theorem has_val {l : List F.Row} {k : List UInt8} (h : F.chk l = 0) (hh : F.has l k = true) : F.key k = true ∧ F.value (F.val l k) = true := by
  obtain ⟨c1, c2, c3⟩ := chk0 h
  have hp := has_pos (k := k) c2
  rw [hh] at hp
  have hp' := hp.symm
  rw [Bool.and_eq_true, decide_eq_true_eq, decide_eq_true_eq] at hp'
  obtain ⟨m1, m2⟩ := c3 _ (mem_gd hp'.1)
  rw [hp'.2] at m1
  rw [val_pos c2 hh]
  exact ⟨m1, m2⟩
theorem itl_val : ∀ (f : Nat) (n : Int) (acc : List UInt8), (acc.all fun b => F.valC b.toNat) = true → ((F.itl f n acc).all fun b => F.valC b.toNat) = true
  | 0, _, acc, h => h
  | f + 1, n, acc, h => by
    rw [F.itl]
    split
    · refine itl_val f _ _ ?_
      unfold F.dig
      rw [List.singleton_append, List.all_cons, h, Bool.and_true]
      have hk : (n % 10).toNat < 10 := by omega
      have : ∀ k, k < 10 → F.valC (UInt8.ofNat (48 + k)).toNat = true := by decide
      exact this _ hk
    · exact h
theorem itoaZ_val (n : Int) : F.value (F.itoaZ n) = true := by
  have h1 : ∀ m, ((F.itoa m).all fun b => F.valC b.toNat) = true := fun m => itl_val 30 m [] rfl
  have h2 := itoa_len n
  have h3 := itoa_len (-n)
  unfold F.value F.valB F.itoaZ
  split
  · rw [List.all_cons, h1, decide_eq_true (by rw [List.length_cons]; omega)]
    decide
  · rw [h1, decide_eq_true (by omega)]
    rfl
theorem ct_bd {s : List UInt8} (h : F.ctH s = true) : -1000000000 ≤ F.atN s ∧ F.atN s ≤ 1000000000 := by
  unfold F.ctH at h
  unfold F.atN
  cases ha : Lib.atoiAll s with
  | ok v =>
    rw [ha] at h
    simp only [Bool.and_eq_true, decide_eq_true_eq] at h
    exact h.1
  | _ => rw [ha] at h; cases h
theorem spl_len : ∀ s : List UInt8, (F.spA s).length ≤ s.length ∧ (F.spB s).length ≤ s.length
  | [] => ⟨Nat.le_refl _, Nat.le_refl _⟩
  | b :: s => by
    obtain ⟨h1, h2⟩ := spl_len s
    simp only [F.spA, F.spB] at h1 h2 ⊢
    rw [F.spl]
    split
    · exact ⟨Nat.zero_le _, by simp⟩
    · simp only [List.length_cons]
      omega
theorem enE0 {n t : Int} {kind text : List UInt8} (h : F.enE n t kind text = 0) : text.length ≤ 120 := by
  unfold F.enE at h
  split at h
  · cases h
  · split at h
    · cases h
    · omega
theorem setE_at {l : List F.Row} (h : F.chk l = 0) (k v : List UInt8) : F.setE l k v = if F.key k = false ∨ F.value v = false then 3 else if 64 < (F.wth k v false l).length then 9 else 0 := if_pos h
theorem set_in {l : List F.Row} {k v : List UInt8} (h : F.chk l = 0) (hh : F.has l k = true) (hv : F.value v = true) : F.setE l k v = 0 := by
  obtain ⟨c1, c2, c3⟩ := chk0 h
  have hl := wth_len (k := k) (v := v) c2
  rw [if_pos hh] at hl
  rw [setE_at h, if_neg (by rw [(has_val h hh).1, hv]; simp), if_neg (by omega)]


def cuts_grow : Cuts := []

theorem grow_t0 (l : List (List UInt8 × List UInt8)) (l_t : Bool) (k : List UInt8) (more : List UInt8) : symF C_scut cuts_grow Tryz.f32.results.toList 1 400 [.code (codeOf Tryz.f32)] ⟨argsS Tryz.f32 [.c (.slc 0 0 (List.length l) l_t), .c (.str k), .c (.str more)], ([.inp 1 l] : Heap cod)⟩ =
.need (List.length more ≤ 1000000000000) (
 cond (!F.ctH more) (
 .ret (.fin (.tup [.c (.own 1 0), .c (.int .i64 5)]) [.own 1 [] 56])) (
 .need (((0 = 0 ∧ List.length l = List.length l) ∧ F.short l)) (
 cond (!decide (F.getE l k = 0)) (
  .ret (.fin (.tup [.c (.own 1 0), .c (.int .i64 (F.getE l k))]) [.own 1 [] 56])) (
  .need (List.length (F.getV l k) ≤ 1000000000000) (
  cond (!F.ctH (F.getV l k)) (
   .ret (.fin (.tup [.c (.own 1 0), .c (.int .i64 11)]) [.own 1 [] 56])) (
   .need (i64ok (F.atN (F.getV l k) + F.atN more)) (
   cond (decide (F.atN (F.getV l k) + F.atN more < -1000000000)) (
    .ret (.fin (.tup [.c (.own 1 0), .c (.int .i64 4)]) [.own 1 [] 56])) (
    .need (i64ok (F.atN (F.getV l k) + F.atN more)) (
    cond (decide (1000000000 < F.atN (F.getV l k) + F.atN more)) (
     .ret (.fin (.tup [.c (.own 1 0), .c (.int .i64 4)]) [.own 1 [] 56])) (
     .need (i64ok (F.atN (F.getV l k) + F.atN more)) (
     .need (i64ok (F.atN (F.getV l k) + F.atN more)) (
     .need (((0 = 0 ∧ List.length l = List.length l) ∧ (F.short l ∧ (List.length k ≤ 1000000000000000 ∧ List.length (F.itoaZ (F.atN (F.getV l k) + F.atN more)) ≤ 1000000000000000)))) (
     .ret (.fin (.tup [.c (.own 1 (List.length (F.setR l k (F.itoaZ (F.atN (F.getV l k) + F.atN more))))), .c (.int .i64 (F.setE l k (F.itoaZ (F.atN (F.getV l k) + F.atN more))))]) [.own 1 (F.setR l k (F.itoaZ (F.atN (F.getV l k) + F.atN more))) 56])))))))))))))) := by kernel_rfl



theorem grow_run (l : List (List UInt8 × List UInt8)) (l_t : Bool) (k : List UInt8) (more : List UInt8) (b0 : Base) (hb : b0.n = 1) (h0 : F.chk l = 0) (h1 : F.short l) (h2 : k.length ≤ 1000000000000) (h3 : more.length ≤ 1000000000000) : Sym.Runs Tryz.prog b0 [.code (codeOf Tryz.f32)] ⟨argsS Tryz.f32 [.c (.slc 0 0 (List.length l) l_t), .c (.str k), .c (.str more)], ([.inp 1 l] : Heap cod)⟩ (Sym.Ends Tryz.prog Tryz.f32 1 (.tup [.c (.own 1 (List.length (F.grR l k more))), .c (.int .i64 (F.grE l k more))]) [.own 1 (F.grR l k more) 56]) := by
  have ev : F.getV l k = F.val l k := if_pos h0
  have ee : F.getE l k = if F.has l k = true then 0 else 8 := if_pos h0
  refine Runs.go (cfg := C_scut) L_scut_ok mixed cuts_grow 400 hb (grow_t0 l l_t k more) ?_
  simp only [T.wp, T.wp_cond, Aft, decide_eq_true_eq, and_true, true_and, Bool.not_eq_true', decide_eq_false_iff_not]
  rw [ev, ee]
  refine ⟨h3, ?_⟩
  cases m : F.ctH more with
  | false =>
    have e : F.grE l k more = 5 := by unfold F.grE; rw [if_pos m]
    have r : F.grR l k more = [] := by unfold F.grR; rw [e]; rfl
    rw [e, r]
    exact ite_yes rfl ⟨rfl, rfl⟩
  | true =>
    refine ite_no (by decide) ⟨h1, ?_⟩
    cases d : F.has l k with
    | false =>
      have e : F.grE l k more = 8 := by unfold F.grE; rw [if_neg (by rw [m]; decide), if_pos d]
      have r : F.grR l k more = [] := by unfold F.grR; rw [e]; rfl
      rw [e, r]
      exact ite_yes (by decide) ⟨rfl, rfl⟩
    | true =>
      obtain ⟨hk, hv⟩ := has_val h0 d
      have hvl := value_len hv
      refine ite_no (by decide) ⟨by omega, ?_⟩
      cases q : F.ctH (F.val l k) with
      | false =>
        have e : F.grE l k more = 11 := by unfold F.grE; rw [if_neg (by rw [m]; decide), if_neg (by rw [d]; decide), if_pos q]
        have r : F.grR l k more = [] := by unfold F.grR; rw [e]; rfl
        rw [e, r]
        exact ite_yes rfl ⟨rfl, rfl⟩
      | true =>
        have b1 := ct_bd m
        have b2 := ct_bd q
        have eg : F.grE l k more = if F.atN (F.val l k) + F.atN more < -1000000000 ∨ 1000000000 < F.atN (F.val l k) + F.atN more then 4 else 0 := by unfold F.grE; rw [if_neg (by rw [m]; decide), if_neg (by rw [d]; decide), if_neg (by rw [q]; decide)]
        have iv := itoaZ_val (F.atN (F.val l k) + F.atN more)
        have il := value_len iv
        have s0 := set_in h0 d iv
        have s1 : F.setR l k (F.itoaZ (F.atN (F.val l k) + F.atN more)) = F.wth k (F.itoaZ (F.atN (F.val l k) + F.atN more)) false l := if_pos s0
        rw [s0, s1]
        have rg : F.grR l k more = if F.grE l k more = 0 then F.wth k (F.itoaZ (F.atN (F.val l k) + F.atN more)) false l else [] := rfl
        generalize F.atN (F.val l k) = x at *
        generalize F.atN more = y at *
        refine ite_no (by decide) ⟨by unfold i64ok; omega, ?_⟩
        by_cases z1 : x + y < -1000000000
        · rw [if_pos (.inl z1)] at eg
          rw [rg, eg]
          exact ite_yes z1 ⟨rfl, rfl⟩
        · refine ite_no z1 ⟨by unfold i64ok; omega, ?_⟩
          by_cases z2 : 1000000000 < x + y
          · rw [if_pos (.inr z2)] at eg
            rw [rg, eg]
            exact ite_yes z2 ⟨rfl, rfl⟩
          · rw [if_neg (by omega)] at eg
            rw [rg, eg]
            exact ite_no z2 ⟨by unfold i64ok; omega, by unfold i64ok; omega, ⟨h1, by omega, by omega⟩, rfl, rfl⟩



noncomputable def s_grow : Summ cod := fun args H => match args, H with
  | [.c (.slc 0 l_i l_n l_t), .c (.str k), .c (.str more)], [o0] => (match o0.asInp 1 with | some l => .need ((l_i = 0 ∧ l_n = List.length l) ∧ (F.chk l = 0) ∧ (F.short l) ∧ (k.length ≤ 1000000000000) ∧ (more.length ≤ 1000000000000)) (.ret (.tup [.c (.own 1 (List.length (F.grR l k more))), .c (.int .i64 (F.grE l k more))], [.own 1 (F.grR l k more) 56])) | none => .fail)
  | _, _ => .fail


theorem grow_sound : Sound Tryz.prog cod 32 s_grow := sound_runs (cfg := C_scut) L_scut_ok mixed Tryz.func32 rfl rfl _ fun args H r news hg b0 hb => by
  unfold s_grow at hg
  split at hg
  · skip
    split at hg
    · rename_i l hx0
      cases asInp_spec hx0
      simp only [T.gives, T.wp, Prod.mk.injEq] at hg
      obtain ⟨⟨⟨rfl, rfl⟩, q1, q2, q3, q4⟩, rfl, rfl⟩ := hg
      exact grow_run _ _ _ _ b0 hb (by assumption) (by assumption) (by assumption) (by assumption)
    · exact hg.elim
  · exact hg.elim

noncomputable def L_grow : Sums cod := (32, .p s_grow) :: L_scut
noncomputable def C_grow : Cfg cod := mkC L_grow

theorem L_grow_ok : Snd Tryz.prog cod L_grow := .cons grow_sound L_scut_ok



namespace F
def kSet : List UInt8 := [115, 101, 116]
def kGrow : List UInt8 := [103, 114, 111, 119]
def kCut : List UInt8 := [99, 117, 116]
def stK (l : List Row) (kind k r : List UInt8) (h : Bool) : Int :=
  if kind = kSet then (if h = false then 5 else setE l k r) else if kind = kGrow then (if h = false then 5 else grE l k r) else if kind = kCut then (if h = true then 5 else cutE l k) else 0
def stL (l : List Row) (kind k r : List UInt8) (h : Bool) : List Row :=
  if stK l kind k r h = 0 then (if kind = kSet then wth k r false l else if kind = kGrow then wth k (itoaZ (atN (val l k) + atN r)) false l else if kind = kCut then wth k [] true l else l) else []
def stE (l : List Row) (n t : Int) (kind text : List UInt8) : Int := if chk l = 0 then (if enE n t kind text = 0 then stK l kind (spA text) (spB text) (spH text) else enE n t kind text) else chk l
def stR (l : List Row) (n t : Int) (kind text : List UInt8) : List Row := if chk l = 0 ∧ enE n t kind text = 0 then stL l kind (spA text) (spB text) (spH text) else []
end F


def cuts_step : Cuts := []

theorem step_t0 (l : List (List UInt8 × List UInt8)) (l_t : Bool) (n t : Int) (kind text : List UInt8) : symF (Cfg.maybe C_grow) cuts_step Tryz.f20.results.toList 1 400 [.code (codeOf Tryz.f20)] ⟨argsS Tryz.f20 [.c (.slc 0 0 (List.length l) l_t), .agg [.int .i64 n, .int .i64 t, .str kind, .str text]], ([.inp 1 l] : Heap cod)⟩ =
.need (((0 = 0 ∧ List.length l = List.length l) ∧ F.short l)) (
 cond (!decide (F.chk l = 0)) (
 .ret (.fin (.tup [.c (.own 1 0), .c (.int .i64 (F.chk l))]) [.own 1 [] 56])) (
 .need ((List.length kind ≤ 1000000000000000 ∧ List.length text ≤ 1000000000000000)) (
 cond (!decide (F.enE n t kind text = 0)) (
  .ret (.fin (.tup [.c (.own 1 0), .c (.int .i64 (F.enE n t kind text))]) [.own 1 [] 56])) (
  .need (List.length text ≤ 1000000000000000) (
  cond (decide (kind = [115, 101, 116])) (
   cond (!F.spH text) (
    .ret (.fin (.tup [.c (.own 1 0), .c (.int .i64 5)]) [.own 1 [] 56])) (
    cond (decide (kind = [115, 101, 116])) (
     .need (((0 = 0 ∧ List.length l = List.length l) ∧ (F.short l ∧ (List.length (F.spA text) ≤ 1000000000000000 ∧ List.length (F.spB text) ≤ 1000000000000000)))) (
     .ret (.fin (.tup [.c (.own 1 (List.length (F.setR l (F.spA text) (F.spB text)))), .c (.int .i64 (F.setE l (F.spA text) (F.spB text)))]) [.own 1 (F.setR l (F.spA text) (F.spB text)) 56]))) (
     .need (((0 = 0 ∧ List.length l = List.length l) ∧ (F.chk l = 0 ∧ (F.short l ∧ (List.length (F.spA text) ≤ 1000000000000 ∧ List.length (F.spB text) ≤ 1000000000000))))) (
     .ret (.fin (.tup [.c (.own 1 (List.length (F.grR l (F.spA text) (F.spB text)))), .c (.int .i64 (F.grE l (F.spA text) (F.spB text)))]) [.own 1 (F.grR l (F.spA text) (F.spB text)) 56]))))) (
   cond (decide (kind = [103, 114, 111, 119])) (
    cond (!F.spH text) (
     .ret (.fin (.tup [.c (.own 1 0), .c (.int .i64 5)]) [.own 1 [] 56])) (
     cond (decide (kind = [115, 101, 116])) (
      .need (((0 = 0 ∧ List.length l = List.length l) ∧ (F.short l ∧ (List.length (F.spA text) ≤ 1000000000000000 ∧ List.length (F.spB text) ≤ 1000000000000000)))) (
      .ret (.fin (.tup [.c (.own 1 (List.length (F.setR l (F.spA text) (F.spB text)))), .c (.int .i64 (F.setE l (F.spA text) (F.spB text)))]) [.own 1 (F.setR l (F.spA text) (F.spB text)) 56]))) (
      .need (((0 = 0 ∧ List.length l = List.length l) ∧ (F.chk l = 0 ∧ (F.short l ∧ (List.length (F.spA text) ≤ 1000000000000 ∧ List.length (F.spB text) ≤ 1000000000000))))) (
      .ret (.fin (.tup [.c (.own 1 (List.length (F.grR l (F.spA text) (F.spB text)))), .c (.int .i64 (F.grE l (F.spA text) (F.spB text)))]) [.own 1 (F.grR l (F.spA text) (F.spB text)) 56]))))) (
    cond (decide (kind = [99, 117, 116])) (
     cond (F.spH text) (
      .ret (.fin (.tup [.c (.own 1 0), .c (.int .i64 5)]) [.own 1 [] 56])) (
      .need (((0 = 0 ∧ List.length l = List.length l) ∧ F.short l)) (
      .ret (.fin (.tup [.c (.own 1 (List.length (F.cutR l (F.spA text)))), .c (.int .i64 (F.cutE l (F.spA text)))]) [.own 1 (F.cutR l (F.spA text)) 56])))) (
     .need (List.length (List.take (List.length l) (List.drop 0 l)) = List.length l) (
     .need (List.length (List.take (List.length l) (List.drop 0 l)) ≤ 1000000) (
     .ret (.fin (.tup [.c (.own 1 (List.length (List.take (List.length l) (List.drop 0 l)))), .c (.int .i64 0)]) [.own 1 (List.take (List.length l) (List.drop 0 l)) 56]))))))))))) := by kernel_rfl



theorem step_run (l : List (List UInt8 × List UInt8)) (l_t : Bool) (n t : Int) (kind text : List UInt8) (b0 : Base) (hb : b0.n = 1) (h0 : F.short l) (h1 : kind.length ≤ 1000000000000000) (h2 : text.length ≤ 1000000000000000) : Sym.Runs Tryz.prog b0 [.code (codeOf Tryz.f20)] ⟨argsS Tryz.f20 [.c (.slc 0 0 (List.length l) l_t), .agg [.int .i64 n, .int .i64 t, .str kind, .str text]], ([.inp 1 l] : Heap cod)⟩ (Sym.Ends Tryz.prog Tryz.f20 1 (.tup [.c (.own 1 (List.length (F.stR l n t kind text))), .c (.int .i64 (F.stE l n t kind text))]) [.own 1 (F.stR l n t kind text) 56]) := by
  have ex : l = List.take l.length (List.drop 0 l) := by rw [List.drop_zero, List.take_length]
  refine Runs.go (cfg := Cfg.maybe C_grow) (CfgFit.maybe L_grow_ok) mixed cuts_step 400 hb (step_t0 l l_t n t kind text) ?_
  simp only [T.wp, T.wp_cond, Aft, decide_eq_true_eq, and_true, true_and, Bool.not_eq_true', decide_eq_false_iff_not]
  refine ⟨h0, ?_⟩
  by_cases c : F.chk l = 0
  · obtain ⟨c1, c2, c3⟩ := chk0 c
    refine ite_no (fun h => h c) ⟨⟨h1, h2⟩, ?_⟩
    by_cases d : F.enE n t kind text = 0
    · have tl := enE0 d
      obtain ⟨l1, l2⟩ := spl_len text
      have eE : F.stE l n t kind text = F.stK l kind (F.spA text) (F.spB text) (F.spH text) := by unfold F.stE; rw [if_pos c, if_pos d]
      have eR : F.stR l n t kind text = F.stL l kind (F.spA text) (F.spB text) (F.spH text) := if_pos ⟨c, d⟩
      rw [eE, eR]
      refine ite_no (fun h => h d) ⟨h2, ?_⟩
      generalize F.spA text = a at *
      generalize F.spB text = b at *
      generalize F.spH text = hh at *
      have rl : ∀ X : List F.Row, F.stL l kind a b hh = X → ∀ e : Int, F.stK l kind a b hh = e → (SV.tup [SV.c (Cell.own 1 X.length), SV.c (Cell.int .i64 e)] = SV.tup [SV.c (Cell.own 1 (List.length (F.stL l kind a b hh))), SV.c (Cell.int .i64 (F.stK l kind a b hh))] ∧ ([HObj.own 1 X 56] : Heap cod) = [HObj.own 1 (F.stL l kind a b hh) 56]) := fun X hX e he => by rw [hX, he]; exact ⟨rfl, rfl⟩
      by_cases k1 : kind = [115, 101, 116]
      · have sK : F.stK l kind a b hh = if hh = false then 5 else F.setE l a b := if_pos k1
        have sL : F.stL l kind a b hh = if F.stK l kind a b hh = 0 then F.wth a b false l else [] := by unfold F.stL; rw [if_pos (show kind = F.kSet from k1)]
        refine ite_yes k1 ?_
        cases hh with
        | false => exact ite_yes rfl (rl [] (by rw [sL, sK]; rfl) 5 sK)
        | true => exact ite_no (by decide) (ite_yes k1 ⟨⟨h0, by omega, by omega⟩, rl (F.setR l a b) (by rw [sL, sK]; rfl) (F.setE l a b) sK⟩)
      · refine ite_no k1 ?_
        by_cases k2 : kind = [103, 114, 111, 119]
        · have sK : F.stK l kind a b hh = if hh = false then 5 else F.grE l a b := by unfold F.stK; rw [if_neg (show ¬ kind = F.kSet from k1), if_pos (show kind = F.kGrow from k2)]
          have sL : F.stL l kind a b hh = if F.stK l kind a b hh = 0 then F.wth a (F.itoaZ (F.atN (F.val l a) + F.atN b)) false l else [] := by unfold F.stL; rw [if_neg (show ¬ kind = F.kSet from k1), if_pos (show kind = F.kGrow from k2)]
          refine ite_yes k2 ?_
          cases hh with
          | false => exact ite_yes rfl (rl [] (by rw [sL, sK]; rfl) 5 sK)
          | true => exact ite_no (by decide) (ite_no k1 ⟨⟨c, h0, by omega, by omega⟩, rl (F.grR l a b) (by rw [sL, sK]; rfl) (F.grE l a b) sK⟩)
        · refine ite_no k2 ?_
          by_cases k3 : kind = [99, 117, 116]
          · have sK : F.stK l kind a b hh = if hh = true then 5 else F.cutE l a := by unfold F.stK; rw [if_neg (show ¬ kind = F.kSet from k1), if_neg (show ¬ kind = F.kGrow from k2), if_pos (show kind = F.kCut from k3)]
            have sL : F.stL l kind a b hh = if F.stK l kind a b hh = 0 then F.wth a [] true l else [] := by unfold F.stL; rw [if_neg (show ¬ kind = F.kSet from k1), if_neg (show ¬ kind = F.kGrow from k2), if_pos (show kind = F.kCut from k3)]
            refine ite_yes k3 ?_
            cases hh with
            | true => exact ite_yes rfl (rl [] (by rw [sL, sK]; rfl) 5 sK)
            | false => exact ite_no (by decide) ⟨h0, rl (F.cutR l a) (by rw [sL, sK]; rfl) (F.cutE l a) sK⟩
          · have sK : F.stK l kind a b hh = 0 := by unfold F.stK; rw [if_neg (show ¬ kind = F.kSet from k1), if_neg (show ¬ kind = F.kGrow from k2), if_neg (show ¬ kind = F.kCut from k3)]
            have sL : F.stL l kind a b hh = l := by unfold F.stL; rw [sK, if_pos rfl, if_neg (show ¬ kind = F.kSet from k1), if_neg (show ¬ kind = F.kGrow from k2), if_neg (show ¬ kind = F.kCut from k3)]
            have hl : (List.take l.length (List.drop 0 l)).length = l.length := congrArg List.length ex.symm
            refine ite_no k3 ⟨hl, ?_⟩
            rw [hl]
            exact ⟨by omega, (congrArg (fun X : List F.Row => (SV.tup [SV.c (Cell.own 1 l.length), SV.c (Cell.int .i64 0)], ([HObj.own 1 X 56] : Heap cod))) ex.symm |> fun q => by
              have r := rl l sL 0 sK
              refine ⟨r.1, ?_⟩
              have q2 := (Prod.mk.inj q).2
              exact q2.trans r.2)⟩
    · have e1 : F.stE l n t kind text = F.enE n t kind text := by unfold F.stE; rw [if_pos c, if_neg d]
      have e2 : F.stR l n t kind text = [] := if_neg (fun h => d h.2)
      rw [e1, e2]
      exact ite_yes d ⟨rfl, rfl⟩
  · have e1 : F.stE l n t kind text = F.chk l := if_neg c
    have e2 : F.stR l n t kind text = [] := if_neg (fun h => c h.1)
    rw [e1, e2]
    exact ite_yes c ⟨rfl, rfl⟩



noncomputable def s_step : Summ cod := fun args H => match args, H with
  | [.c (.slc 0 l_i l_n l_t), .agg [.int .i64 n, .int .i64 t, .str kind, .str text]], [o0] => (match o0.asInp 1 with | some l => .need ((l_i = 0 ∧ l_n = List.length l) ∧ (F.short l) ∧ (kind.length ≤ 1000000000000000) ∧ (text.length ≤ 1000000000000000)) (.ret (.tup [.c (.own 1 (List.length (F.stR l n t kind text))), .c (.int .i64 (F.stE l n t kind text))], [.own 1 (F.stR l n t kind text) 56])) | none => .fail)
  | _, _ => .fail


theorem step_sound : Sound Tryz.prog cod 20 s_step := sound_runs (cfg := C_grow) L_grow_ok mixed Tryz.func20 rfl rfl _ fun args H r news hg b0 hb => by
  unfold s_step at hg
  split at hg
  · skip
    split at hg
    · rename_i l hx0
      cases asInp_spec hx0
      simp only [T.gives, T.wp, Prod.mk.injEq] at hg
      obtain ⟨⟨⟨rfl, rfl⟩, q1, q2, q3⟩, rfl, rfl⟩ := hg
      exact step_run _ _ _ _ _ _ b0 hb (by assumption) (by assumption) (by assumption)
    · exact hg.elim
  · exact hg.elim

noncomputable def L_step : Sums cod := (20, .p s_step) :: L_grow
noncomputable def C_step : Cfg cod := mkC L_step

theorem L_step_ok : Snd Tryz.prog cod L_step := .cons step_sound L_grow_ok


end
end Go.Proofs.YtiolfkmkbccndaaGreatDoor
