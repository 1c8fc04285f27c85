/- Parts of the proof, one behind the other: Ve, Lift. -/
import Derived.Test.YtbkpgpkeecnjpaaVd
import Derived.WalkKit
import Derived.ProofKit
import Derived.SizedLaws
import Derived.Below
import Derived.Carry
import Derived.OpenShut
section
namespace Go.Proofs.Ytbkpgpkeecnjpaa
open Sym Go.RowKit
noncomputable section
set_option maxRecDepth 100000
set_option maxHeartbeats 4000000



def cuts_samep : Cuts := [(4, [1, 0, 12, 13], 2)]

theorem samep_t0 (a : List (Int × Int × Int × Int × Int × Int)) (a_t : Bool) (b : List (Int × Int × Int × Int × Int × Int)) (b_t : Bool) : symF C_wread cuts_samep Try.f38.results.toList 2 400 [.code (codeOf Try.f38)] ⟨argsS Try.f38 [.c (.slc 0 0 (List.length a) a_t), .c (.slc 1 0 (List.length b) b_t)], ([.inp 2 a, .inp 2 b] : Heap cod)⟩ =
 cond (!decide (Int.ofNat (List.length a) = Int.ofNat (List.length b))) (
 .ret (.fin (.c (.bool false)) [])) (
 .ret (.cut (cutAt Try.f38 4) ⟨tmG 12 [(0, .c (.slc 0 0 (List.length a) a_t)), (0, .c (.slc 1 0 (List.length b) b_t)), (10, .c (.int .i64 (Int.ofNat (List.length a)))), (0, .c (.int .i64 0))], [.inp 2 a, .inp 2 b]⟩)) := by kernel_rfl


noncomputable def st_samep_4 (a : List (Int × Int × Int × Int × Int × Int)) (a_t : Bool) (b : List (Int × Int × Int × Int × Int × Int)) (b_t : Bool) (i : Int) : St cod := ⟨tmG 12 [(0, .c (.slc 0 0 (List.length a) a_t)), (0, .c (.slc 1 0 (List.length b) b_t)), (10, .c (.int .i64 (Int.ofNat (List.length a)))), (0, .c (.int .i64 i))], [.inp 2 a, .inp 2 b]⟩


theorem samep_t4 (a : List (Int × Int × Int × Int × Int × Int)) (a_t : Bool) (b : List (Int × Int × Int × Int × Int × Int)) (b_t : Bool) (i : Int) : symF C_wread cuts_samep Try.f38.results.toList 2 400 (cutAt Try.f38 4) (st_samep_4 a a_t b b_t i) =
 cond (decide (i < Int.ofNat (List.length a))) (
 .need (((0 : Int) ≤ i ∧ i < Int.ofNat (List.length a))) (
 .need (0 + Int.toNat i < List.length a) (
 .need (((0 : Int) ≤ i ∧ i < Int.ofNat (List.length b))) (
 .need (0 + Int.toNat i < List.length b) (
 cond (!(decide ((List.getD a (0 + Int.toNat i) (cod 2).d).1 = (List.getD b (0 + Int.toNat i) (cod 2).d).1) &&     (decide ((List.getD a (0 + Int.toNat i) (cod 2).d).2.1 = (List.getD b (0 + Int.toNat i) (cod 2).d).2.1) &&       (decide ((List.getD a (0 + Int.toNat i) (cod 2).d).2.2.1 = (List.getD b (0 + Int.toNat i) (cod 2).d).2.2.1) &&         (decide             ((List.getD a (0 + Int.toNat i) (cod 2).d).2.2.2.1 = (List.getD b (0 + Int.toNat i) (cod 2).d).2.2.2.1) &&           (decide               ((List.getD a (0 + Int.toNat i) (cod 2).d).2.2.2.2.1 =                 (List.getD b (0 + Int.toNat i) (cod 2).d).2.2.2.2.1) &&             decide               ((List.getD a (0 + Int.toNat i) (cod 2).d).2.2.2.2.2 =                 (List.getD b (0 + Int.toNat i) (cod 2).d).2.2.2.2.2))))))) (
  .ret (.fin (.c (.bool false)) [])) (
  .need (Sym.i64ok (i + 1)) (
  .ret (.cut (cutAt Try.f38 4) ⟨tmG 12 [(0, .c (.slc 0 0 (List.length a) a_t)), (0, .c (.slc 1 0 (List.length b) b_t)), (10, .c (.int .i64 (Int.ofNat (List.length a)))), (0, .c (.int .i64 (i + 1)))], [.inp 2 a, .inp 2 b]⟩)))))))) (
 .ret (.fin (.c (.bool true)) [])) := by kernel_rfl



theorem samep_run (a : List (Int × Int × Int × Int × Int × Int)) (a_t : Bool) (b : List (Int × Int × Int × Int × Int × Int)) (b_t : Bool) (b0 : Base) (hb : b0.n = 2) (h0 : a = b) (h1 : a.length ≤ 100000) : Sym.Runs Try.prog b0 [.code (codeOf Try.f38)] ⟨argsS Try.f38 [.c (.slc 0 0 (List.length a) a_t), .c (.slc 1 0 (List.length b) b_t)], ([.inp 2 a, .inp 2 b] : Heap cod)⟩ (Sym.Ends Try.prog Try.f38 2 (.c (.bool true)) []) := by
  subst h0
  have key : ∀ (m k : Nat), k + m = a.length →
      Sym.Runs Try.prog b0 (cutAt Try.f38 4) (st_samep_4 a a_t a b_t (k : Int)) (Sym.Ends Try.prog Try.f38 2 (.c (.bool true)) []) := by
    intro m
    induction m with
    | zero =>
      intro k hk
      refine Runs.go (cfg := C_wread) L_wread_ok mixed cuts_samep 400 hb (samep_t4 a a_t a b_t (k : Int)) ?_
      simp only [T.wp, T.wp_cond, Aft, Int.ofNat_eq_natCast, decide_eq_true_eq, and_true, true_and, Nat.zero_add, Bool.not_eq_true', decide_eq_false_iff_not]
      exact ite_no (by omega) trivial
    | succ m ih =>
      intro k hk
      refine Runs.go (cfg := C_wread) L_wread_ok mixed cuts_samep 400 hb (samep_t4 a a_t a b_t (k : Int)) ?_
      have nx := ih (k + 1) (by omega)
      have hk1 : (k : Int) < (a.length : Int) := by omega
      simp only [T.wp, T.wp_cond, Aft, Int.ofNat_eq_natCast, decide_eq_true_eq, and_true, true_and, Nat.zero_add, Bool.not_eq_true', decide_eq_false_iff_not, decide_true, Bool.and_true, Bool.not_true, Bool.false_eq_true, if_false]
      exact ite_yes hk1 ⟨⟨by omega, hk1⟩, by omega, ⟨by omega, hk1⟩, by omega, by unfold Sym.i64ok; omega, nx⟩
  refine Runs.go (cfg := C_wread) L_wread_ok mixed cuts_samep 400 hb (samep_t0 a a_t a b_t) ?_
  simp only [T.wp, T.wp_cond, Aft, Int.ofNat_eq_natCast, decide_eq_true_eq, and_true, true_and, Nat.zero_add, Bool.not_eq_true', decide_eq_false_iff_not]
  exact ite_no (fun q => q trivial) (key a.length 0 (by omega))



noncomputable def s_samep : Summ cod := fun args H => match args, H with
  | [.c (.slc 0 a_i a_n a_t), .c (.slc 1 b_i b_n b_t)], [o0, o1] => (match o0.asInp 2 with | some a => (match o1.asInp 2 with | some b => .need ((a_i = 0 ∧ a_n = List.length a) ∧ (b_i = 0 ∧ b_n = List.length b) ∧ (a = b) ∧ (a.length ≤ 100000)) (.ret (.c (.bool true), [])) | none => .fail) | none => .fail)
  | _, _ => .fail


theorem samep_sound : Sound Try.prog cod 38 s_samep := sound_runs (cfg := C_wread) L_wread_ok mixed Try.func38 rfl rfl _ fun args H r news hg b0 hb => by
  unfold s_samep at hg
  split at hg
  · skip
    split at hg
    · rename_i a hx0
      cases asInp_spec hx0
      split at hg
      · rename_i b hx1
        cases asInp_spec hx1
        simp only [T.gives, T.wp, Prod.mk.injEq] at hg
        obtain ⟨⟨⟨rfl, rfl⟩, ⟨rfl, rfl⟩, q2, q3⟩, rfl, rfl⟩ := hg
        exact samep_run _ _ _ _ b0 hb (by assumption) (by assumption)
      · exact hg.elim
    · exact hg.elim
  · exact hg.elim

noncomputable def L_samep : Sums cod := (38, .p s_samep) :: L_wread
noncomputable def C_samep : Cfg cod := mkC L_samep

theorem L_samep_ok : Snd Try.prog cod L_samep := .cons samep_sound L_wread_ok



def cuts_samef : Cuts := []

theorem samef_t0 (r t : Int) (a : List (Int × Int × Int × Int × Int × Int)) (a_t : Bool) (u v : Int) (b : List (Int × Int × Int × Int × Int × Int)) (b_t : Bool) : symF C_samep cuts_samef Try.f24.results.toList 2 400 [.code (codeOf Try.f24)] ⟨argsS Try.f24 [.agg [.int .i64 r, .int .i64 t, .slc 0 0 (List.length a) a_t], .agg [.int .i64 u, .int .i64 v, .slc 1 0 (List.length b) b_t]], ([.inp 2 a, .inp 2 b] : Heap cod)⟩ =
 cond (decide (r = u)) (
 cond (decide (t = v)) (
  .need (((0 = 0 ∧ List.length a = List.length a) ∧ ((0 = 0 ∧ List.length b = List.length b) ∧ (a = b ∧ List.length a ≤ 100000)))) (
  .ret (.fin (.c (.bool true)) []))) (
  .ret (.fin (.c (.bool false)) []))) (
 .ret (.fin (.c (.bool false)) [])) := by kernel_rfl



theorem samef_run (r t : Int) (a : List (Int × Int × Int × Int × Int × Int)) (a_t : Bool) (u v : Int) (b : List (Int × Int × Int × Int × Int × Int)) (b_t : Bool) (b0 : Base) (hb : b0.n = 2) (h0 : r = u) (h1 : t = v) (h2 : a = b) (h3 : a.length ≤ 100000) : Sym.Runs Try.prog b0 [.code (codeOf Try.f24)] ⟨argsS Try.f24 [.agg [.int .i64 r, .int .i64 t, .slc 0 0 (List.length a) a_t], .agg [.int .i64 u, .int .i64 v, .slc 1 0 (List.length b) b_t]], ([.inp 2 a, .inp 2 b] : Heap cod)⟩ (Sym.Ends Try.prog Try.f24 2 (.c (.bool true)) []) := by
  refine Runs.go (cfg := C_samep) L_samep_ok mixed cuts_samef 400 hb (samef_t0 r t a a_t u v b b_t) ?_
  simp only [T.wp, T.wp_cond, Aft, Int.ofNat_eq_natCast, decide_eq_true_eq, and_true, true_and, Nat.zero_add, Bool.not_eq_true', decide_eq_false_iff_not]
  exact ite_yes h0 (ite_yes h1 ⟨h2, h3⟩)



noncomputable def s_samef : Summ cod := fun args H => match args, H with
  | [.agg [.int .i64 r, .int .i64 t, .slc 0 a_i a_n a_t], .agg [.int .i64 u, .int .i64 v, .slc 1 b_i b_n b_t]], [o0, o1] => (match o0.asInp 2 with | some a => (match o1.asInp 2 with | some b => .need ((a_i = 0 ∧ a_n = List.length a) ∧ (b_i = 0 ∧ b_n = List.length b) ∧ (r = u) ∧ (t = v) ∧ (a = b) ∧ (a.length ≤ 100000)) (.ret (.c (.bool true), [])) | none => .fail) | none => .fail)
  | _, _ => .fail


theorem samef_sound : Sound Try.prog cod 24 s_samef := sound_runs (cfg := C_samep) L_samep_ok mixed Try.func24 rfl rfl _ fun args H r news hg b0 hb => by
  unfold s_samef at hg
  split at hg
  · skip
    split at hg
    · rename_i a hx0
      cases asInp_spec hx0
      split at hg
      · rename_i b hx1
        cases asInp_spec hx1
        simp only [T.gives, T.wp, Prod.mk.injEq] at hg
        obtain ⟨⟨⟨rfl, rfl⟩, ⟨rfl, rfl⟩, q2, q3, q4, q5⟩, rfl, rfl⟩ := hg
        exact samef_run _ _ _ _ _ _ _ _ b0 hb (by assumption) (by assumption) (by assumption) (by assumption)
      · exact hg.elim
    · exact hg.elim
  · exact hg.elim

noncomputable def L_samef : Sums cod := (24, .p s_samef) :: L_samep
noncomputable def C_samef : Cfg cod := mkC L_samef

theorem L_samef_ok : Snd Try.prog cod L_samef := .cons samef_sound L_samep_ok



def cuts_wdlaw : Cuts := []

theorem wdlaw_t0 (s : List UInt8) : symF C_samef cuts_wdlaw Try.f5.results.toList 0 400 [.code (codeOf Try.f5)] ⟨argsS Try.f5 [.c (.str s)], ([] : Heap cod)⟩ =
.need (((0 : Int) ≤ 7 ∧ ((7 : Int) < 18446744073709551616 ∧ ((0 : Int) ≤ 7 ∧ ((7 : Int) < Int.ofNat 9 ∧ (9 : Nat) ≤ 9))))) (
.need ((2 + 7 : Nat) ≤ 9223372036854775807) (
.need (((0 : Int) ≤ 7 ∧ ((7 : Int) < 18446744073709551616 ∧ ((0 : Int) ≤ 7 ∧ ((7 : Int) < Int.ofNat 9 ∧ (9 : Nat) ≤ 9))))) (
.need ((2 + 7 : Nat) ≤ 9223372036854775807) (
.need ((9 : Nat) ≤ 1000000) (
.need (((0 : Int) ≤ IntKind.wrap IntKind.u64 (F.wsum ([83, 87] ++ F.byt 7 (Int.toNat 7))) ∧ ((IntKind.wrap IntKind.u64 (F.wsum ([83, 87] ++ F.byt 7 (Int.toNat 7))) : Int) < 18446744073709551616 ∧ ((0 : Int) ≤ 2 ∧ ((2 : Int) < Int.ofNat 9 ∧ (9 : Nat) ≤ 9))))) (
.need ((9 + 2 : Nat) ≤ 9223372036854775807) (
 cond (!decide     (F.rE         ([83, 87] ++ F.byt 7 (Int.toNat 7) ++           F.byt (IntKind.wrap IntKind.u64 (F.wsum ([83, 87] ++ F.byt 7 (Int.toNat 7)))) (Int.toNat 2)) =       8)) (
 .ret (.fin (.c (.bool false)) [])) (
 cond (!decide     (F.oZ         ([83, 87] ++ F.byt 7 (Int.toNat 7) ++           F.byt (IntKind.wrap IntKind.u64 (F.wsum ([83, 87] ++ F.byt 7 (Int.toNat 7)))) (Int.toNat 2)) =       0)) (
  .ret (.fin (.c (.bool false)) [])) (
  cond (!decide     (Int.ofNat         (List.length           (F.oL             ([83, 87] ++ F.byt 7 (Int.toNat 7) ++               F.byt (IntKind.wrap IntKind.u64 (F.wsum ([83, 87] ++ F.byt 7 (Int.toNat 7)))) (Int.toNat 2)))) =       0)) (
   .ret (.fin (.c (.bool false)) [])) (
   cond (decide (F.rE s = F.rE s)) (
    cond (decide (F.oZ s = F.oZ s)) (
     .need (((0 = 0 ∧ List.length (F.oL s) = List.length (F.oL s)) ∧ ((0 = 0 ∧ List.length (F.oL s) = List.length (F.oL s)) ∧ (F.oR s = F.oR s ∧ (F.oT s = F.oT s ∧ (F.oL s = F.oL s ∧ List.length (F.oL s) ≤ 100000)))))) (
     .ret (.fin (.c (.bool true)) []))) (
     .ret (.fin (.c (.bool false)) []))) (
    .ret (.fin (.c (.bool false)) [])))))))))))) := by kernel_rfl



theorem lit_eq : [83, 87] ++ F.byt 7 (Int.toNat 7) ++ F.byt (IntKind.wrap IntKind.u64 (F.wsum ([83, 87] ++ F.byt 7 (Int.toNat 7)))) (Int.toNat 2) = [83, 87, 0, 0, 0, 0, 0, 0, 7, 175, 177] := by decide
theorem lit_E : F.rE [83, 87, 0, 0, 0, 0, 0, 0, 7, 175, 177] = 8 := rE_part (by unfold F.hd; decide) (by decide) (by decide) (by decide)
theorem oL_len (s : List UInt8) : (F.oL s).length ≤ 65536 := by
  have n2 := num2 s 7
  have e : F.rN s = F.num (F.sl s 7 2) := rfl
  unfold F.oL
  split
  · rw [gL_len, e]
    omega
  · exact Nat.zero_le _
theorem wdlaw_run (s : List UInt8) (b0 : Base) (hb : b0.n = 0)  : Sym.Runs Try.prog b0 [.code (codeOf Try.f5)] ⟨argsS Try.f5 [.c (.str s)], ([] : Heap cod)⟩ (Sym.Ends Try.prog Try.f5 0 (.c (.bool true)) []) := by
  refine Runs.go (cfg := C_samef) L_samef_ok mixed cuts_wdlaw 400 hb (wdlaw_t0 s) ?_
  have h0 : F.oZ [83, 87, 0, 0, 0, 0, 0, 0, 7, 175, 177] = 0 := by
    unfold F.oZ
    rw [if_neg (by rw [lit_E]; decide)]
  have h1 : F.oL [83, 87, 0, 0, 0, 0, 0, 0, 7, 175, 177] = [] := by
    unfold F.oL
    rw [if_neg (by rw [lit_E]; decide)]
  have w := u64_bd (F.wsum ([83, 87] ++ F.byt 7 (Int.toNat 7)))
  have l := oL_len s
  simp only [lit_eq, lit_E, h0, h1]
  simp only [T.wp, T.wp_cond, Aft, Int.ofNat_eq_natCast, decide_eq_true_eq, and_true, true_and, Nat.zero_add, Bool.not_eq_true', decide_eq_false_iff_not]
  refine ⟨by decide, by decide, by decide, by decide, by decide, ⟨w.1, w.2, by decide⟩, by decide, ?_⟩
  exact ite_no (fun q => q trivial) (ite_no (fun q => q trivial) (ite_no (fun q => q rfl) (ite_yes trivial (ite_yes trivial (by omega)))))



noncomputable def s_wdlaw : Summ cod := fun args H => match args, H with
  | [.c (.str s)], [] => .ret (.c (.bool true), [])
  | _, _ => .fail


theorem wdlaw_sound : Sound Try.prog cod 5 s_wdlaw := sound_runs (cfg := C_samef) L_samef_ok mixed Try.func5 rfl rfl _ fun args H r news hg b0 hb => by
  unfold s_wdlaw at hg
  split at hg
  · skip
    cases hg
    exact wdlaw_run _ b0 hb 
  · exact hg.elim

noncomputable def L_wdlaw : Sums cod := (5, .p s_wdlaw) :: L_samef
noncomputable def C_wdlaw : Cfg cod := mkC L_wdlaw

theorem L_wdlaw_ok : Snd Try.prog cod L_wdlaw := .cons wdlaw_sound L_samef_ok


end
end Go.Proofs.Ytbkpgpkeecnjpaa
end
section
/-
  A law's row out of its walk: whatever the parameters, if the walk returns true and writes nothing that was there, the row's step follows. No program in sight.
-/
namespace Go.Proofs.Ytbkpgpkeecnjpaa.Lift
open Go.ChangeShapes Go.WideShapes Go.ChangeAt Go.RowKit

section
variable {H : Type} {enc : TypeId × Value → H} {P : Program}

theorem trodAll_below (hl : laidOutB P = true) {W W' : World} (hb : Below W.heap.size W W') :
    ∀ (ts : List TypeId) (vs : List Value) (ds : List (DataW H)) (ps : List MemPlace), (∀ t ∈ ts, P.readableRec t = true ∧ t < P.types.size) →
      DataW.TrodAll enc P W 0 (fun _ => true) true ts vs ds ps → (∀ x ∈ ps, x.block < W.heap.size) →
      DataW.TrodAll enc P W' 0 (fun b => decide (b < W.heap.size)) true ts vs ds ps
  | [], [], [], _, _, h, _ => h
  | [], [], _ :: _, _, _, h, _ => h.elim
  | [], _ :: _, _, _, _, h, _ => h.elim
  | _ :: _, [], _, _, _, h, _ => h.elim
  | _ :: _, _ :: _, [], _, _, h, _ => h.elim
  | t :: ts, v :: vs, d :: ds, ps, hr, h, hlt => by
    obtain ⟨p, q, h1, h2, rfl⟩ := h
    have ht := hr t (List.mem_cons_self ..)
    exact ⟨p, q, Below.trod hl ht.1 ht.2 h1 hb (fun x hx => hlt x (List.mem_append.2 (.inl hx))),
      trodAll_below hl hb ts vs ds q (fun t h => hr t (List.mem_cons_of_mem _ h)) h2 (fun x hx => hlt x (List.mem_append.2 (.inr hx))), rfl⟩

theorem trodAll_length : ∀ (ts : List TypeId) (vs : List Value) (ds : List (DataW H)) (ps : List MemPlace) {W : World} {b : Nat} {sp : Nat → Bool} {hd : Bool}, DataW.TrodAll enc P W b sp hd ts vs ds ps → ds.length = ts.length ∧ vs.length = ts.length
  | [], [], [], _, _, _, _, _, _ => ⟨rfl, rfl⟩
  | [], [], _ :: _, _, _, _, _, _, h => h.elim
  | [], _ :: _, _, _, _, _, _, _, h => h.elim
  | _ :: _, [], _, _, _, _, _, _, h => h.elim
  | _ :: _, _ :: _, [], _, _, _, _, _, h => h.elim
  | _ :: ts, _ :: vs, _ :: ds, _, _, _, _, _, h => by
    obtain ⟨p, q, _, h2, rfl⟩ := h
    have := trodAll_length ts vs ds q h2
    simp [this]

/-- What a walk is told of its arguments. -/
structure Args (enc : TypeId × Value → H) (P : Program) (fn : Func) (W : World) (args : Array Value) (ds : List (DataW H)) (p : List MemPlace) : Prop where
  val : ∀ (j : Nat) t v, fn.params[j]? = some t → args[j]? = some v → ∃ base, Value.okWide P W .any base t v
  trod : DataW.TrodAll enc P W 0 (fun _ => true) true fn.params.toList args.toList ds p
  lt : ∀ x ∈ p, x.block < W.heap.size
  reach : (DataW.weightsEach P fn.params.toList ds).all (· ≤ reachBytes) = true
  free : W.noneFrozen p

theorem law {C : Checked} {os : Os} {f : FuncId} {fn : Func} {s : ChangeSpec} {tb : TypeId} (own : ownKnob C.prog.godebug = none) (started : os.Started) (noInit : C.prog.inits.idxOf? f = none) (hfn : C.prog.funcs[f]? = some fn)
    (witness : ∃ (w : World) (tape : Tape) (i : Input), w.os = os ∧ (w.forCall tape i).Shaped C.prog ∧ i.vars = [] ∧ Input.okWide C.prog (w.forCall tape i) .any w.heap.size f i ∧
      s.pre6 enc C.prog fn [] false (w.forCall tape i).memory i.args ∧ ({} : Assume).holds C.prog (lone (Frame.enter C.prog f i.args .normal) [] (w.forCall tape i)))
    (hvars : s.vars = []) (hres : fn.resultTypes = #[tb]) (htb : C.prog.underlying tb = some .bool) (hl : laidOutB C.prog = true)
    (hrb : (fn.params.toList.all fun t => C.prog.readableRec t && decide (t < C.prog.types.size)) = true)
    (hspec : ∀ ds : List (DataW H), ds.length = fn.params.toList.length → s.fn H ds = { results := [.lit (.bool true)], args := ds, vars := [] })
    (walk : ∀ (W : World) (args : Array Value) (ds : List (DataW H)) (p : List MemPlace), Args enc C.prog fn W args ds p →
      Calls C.prog f args W fun e W' => e = .returned (.bool true) ∧ Below W.heap.size W W') :
    ReturnsInHanded {} C os f .any (s.pre6 enc C.prog fn [] false) (s.post enc C.prog fn false true false false) := by
  have hrd : ∀ t ∈ fn.params.toList, C.prog.readableRec t = true ∧ t < C.prog.types.size := fun t ht => by
    have := List.all_eq_true.1 hrb t ht
    simpa using this
  refine returnsInHanded_of_change_sized own started noInit hfn witness ?_
  intro W base args ds gs before hval hW hcnd hsz _
  have hlt : ∀ x ∈ before, x.block < W.heap.size := fun x hx => hW.lt x hx
  have hW' := hW
  obtain ⟨p, q, hA, hV, rfl, hfz, hnd⟩ := hW
  rw [hvars] at hV
  obtain ⟨rfl, rfl⟩ := trodVars_none hV
  simp only [List.append_nil] at hlt hfz
  have hvt : s.plain.varTypes C.prog = [] := by simp [ChangeSpec.plain, DataSpec.varTypes, hvars]
  rw [hvt] at hsz
  simp only [List.append_nil] at hsz
  refine (walk W args ds p ⟨fun j t v hj hv => ⟨base, hval j t v hj hv⟩, hA, hlt, hsz, hfz⟩).mono fun e W' ⟨he, hb⟩ => ⟨_, he, ?_⟩
  have hds := (trodAll_length _ _ _ _ hA).1
  have hsp := hspec ds hds
  refine ⟨ds, [], _, [], p, [], hW', ?_, ?_, ?_, hb.frame _, fun h => by cases h⟩
  · rw [List.append_nil, hsp, hres]
    exact trodAll_cons_mk (shut_bool htb _) trodAll_mk0
  · rw [List.append_nil, hsp]
    exact trodAll_below hl hb _ _ _ _ hrd hA hlt
  · rw [List.append_nil, hsp, hvars]
    rfl
end
end Go.Proofs.Ytbkpgpkeecnjpaa.Lift
end
