/- Parts of the proof, one behind the other: Wi, Lift. -/
import Derived.Test.YtbkpgpkeecnjpaaBd35
import Derived.WalkKit
import Derived.ProofKit
import Derived.SizedLaws
import Derived.Below
import Derived.Carry
import Derived.OpenShut
section
namespace Go.Proofs.Ytbkpgpkeecnjpaa
open Sym Go.RowKit
noncomputable section
set_option maxRecDepth 100000
set_option maxHeartbeats 4000000



def nilFrame : List SV → Bool
  | .agg [_, _, .nil] :: _ => true
  | _ => false
noncomputable def s_Enc : Summ cod := s_by nilFrame s_wenc0 s_wenc
noncomputable def s_Chk : Summ cod := s_by nilFrame s_chk0 s_chk


theorem Enc_sound : Sound Try.prog cod 10 s_Enc := .by_ _ wenc0_sound wenc_sound
theorem Chk_sound : Sound Try.prog cod 13 s_Chk := .by_ _ chk0_sound chk_sound

noncomputable def L_Enc : Sums cod := (10, .p s_Enc) :: L_wenc0
noncomputable def C_Enc : Cfg cod := mkC L_Enc

theorem L_Enc_ok : Snd Try.prog cod L_Enc := .cons Enc_sound L_wenc0_ok


noncomputable def L_Chk : Sums cod := (13, .p s_Chk) :: L_Enc
noncomputable def C_Chk : Cfg cod := mkC L_Chk

theorem L_Chk_ok : Snd Try.prog cod L_Chk := .cons Chk_sound L_Enc_ok



def cuts_welaw : Cuts := []

theorem welaw_t0 (r t : Int) (l : List (Int × Int × Int × Int × Int × Int)) (l_t : Bool) (s : List UInt8) : symF C_Chk cuts_welaw Try.f3.results.toList 1 400 [.code (codeOf Try.f3)] ⟨argsS Try.f3 [.agg [.int .i64 r, .int .i64 t, .slc 0 0 (List.length l) l_t], .c (.str s)], ([.inp 2 l] : Heap cod)⟩ =
.need ((2 : Nat) ≤ 1000000) (
.need ((0 = 0 ∧ List.length l = List.length l)) (
.need ((0 = 0 ∧ List.length l = List.length l)) (
.need ((0 = 0 ∧ List.length l = List.length l)) (
 cond (!decide (F.chk r t l = F.chk r t l)) (
 .ret (.fin (.c (.bool false)) [])) (
 cond (!decide (F.chk r t l = F.chk r t l)) (
  .ret (.fin (.c (.bool false)) [])) (
  cond (!decide (F.chk r t l = 0)) (
   cond (!decide (F.encS r t l = [])) (
    .ret (.fin (.c (.bool false)) [])) (
    cond (decide (3000 < Int.ofNat (List.length s))) (
     .need (((0 : Int) ≤ 3000 ∧ (3000 : Int) ≤ Int.ofNat (List.length s))) (
     .need (List.length (List.take (Int.toNat 3000) s) ≤ 1000000) (
     .need (List.length (List.take (Int.toNat 3000) s) ≤ 1000000) (
     cond (decide (F.wsum (List.take (Int.toNat 3000) s) = F.wsum (List.take (Int.toNat 3000) s))) (
      cond (!decide (F.chk r t l = 0)) (
       .ret (.fin (.c (.bool true)) [])) (
       .need (((0 = 0 ∧ List.length l = List.length l) ∧ F.chk r t l = 0)) (
       .ret (.fin (.c (.bool (decide (F.encS r t l = F.frame r t l)))) [])))) (
      .ret (.fin (.c (.bool false)) [])))))) (
     .need (List.length s ≤ 1000000) (
     .need (List.length s ≤ 1000000) (
     cond (decide (F.wsum s = F.wsum s)) (
      cond (!decide (F.chk r t l = 0)) (
       .ret (.fin (.c (.bool true)) [])) (
       .need (((0 = 0 ∧ List.length l = List.length l) ∧ F.chk r t l = 0)) (
       .ret (.fin (.c (.bool (decide (F.encS r t l = F.frame r t l)))) [])))) (
      .ret (.fin (.c (.bool false)) []))))))) (
   cond (decide (3000 < Int.ofNat (List.length s))) (
    .need (((0 : Int) ≤ 3000 ∧ (3000 : Int) ≤ Int.ofNat (List.length s))) (
    .need (List.length (List.take (Int.toNat 3000) s) ≤ 1000000) (
    .need (List.length (List.take (Int.toNat 3000) s) ≤ 1000000) (
    cond (decide (F.wsum (List.take (Int.toNat 3000) s) = F.wsum (List.take (Int.toNat 3000) s))) (
     cond (!decide (F.chk r t l = 0)) (
      .ret (.fin (.c (.bool true)) [])) (
      .need (((0 = 0 ∧ List.length l = List.length l) ∧ F.chk r t l = 0)) (
      .ret (.fin (.c (.bool (decide (F.encS r t l = F.frame r t l)))) [])))) (
     .ret (.fin (.c (.bool false)) [])))))) (
    .need (List.length s ≤ 1000000) (
    .need (List.length s ≤ 1000000) (
    cond (decide (F.wsum s = F.wsum s)) (
     cond (!decide (F.chk r t l = 0)) (
      .ret (.fin (.c (.bool true)) [])) (
      .need (((0 = 0 ∧ List.length l = List.length l) ∧ F.chk r t l = 0)) (
      .ret (.fin (.c (.bool (decide (F.encS r t l = F.frame r t l)))) [])))) (
     .ret (.fin (.c (.bool false)) [])))))))))))) := by kernel_rfl



theorem welaw_run (r t : Int) (l : List (Int × Int × Int × Int × Int × Int)) (l_t : Bool) (s : List UInt8) (b0 : Base) (hb : b0.n = 1)  : Sym.Runs Try.prog b0 [.code (codeOf Try.f3)] ⟨argsS Try.f3 [.agg [.int .i64 r, .int .i64 t, .slc 0 0 (List.length l) l_t], .c (.str s)], ([.inp 2 l] : Heap cod)⟩ (Sym.Ends Try.prog Try.f3 1 (.c (.bool true)) []) := by
  refine Runs.go (cfg := C_Chk) L_Chk_ok mixed cuts_welaw 400 hb (welaw_t0 r t l l_t s) ?_
  have e1 : F.chk r t l = 0 → F.encS r t l = F.frame r t l := fun h => by rw [F.encS, if_pos h]
  have e2 : ¬ F.chk r t l = 0 → F.encS r t l = [] := fun h => by rw [F.encS, if_neg h]
  have l3 : (List.take (Int.toNat 3000) s).length ≤ 1000000 := by rw [List.length_take]; omega
  simp only [T.wp, T.wp_cond, Aft, Int.ofNat_eq_natCast, decide_eq_true_eq, and_true, true_and, Nat.zero_add, Bool.not_eq_true', decide_eq_false_iff_not, not_true, if_false, if_true]
  refine ⟨by decide, ?_⟩
  by_cases hc : F.chk r t l = 0
  · have e := e1 hc
    refine ite_no (fun q => q hc) ?_
    by_cases h3 : 3000 < (s.length : Int)
    · exact ite_yes h3 ⟨⟨by decide, by omega⟩, l3, l3, ite_no (fun q => q hc) ⟨hc, by rw [decide_eq_true e]⟩⟩
    · exact ite_no h3 ⟨by omega, by omega, ite_no (fun q => q hc) ⟨hc, by rw [decide_eq_true e]⟩⟩
  · have e := e2 hc
    refine ite_yes hc (ite_no (fun q => q e) ?_)
    by_cases h3 : 3000 < (s.length : Int)
    · exact ite_yes h3 ⟨⟨by decide, by omega⟩, l3, l3, ite_yes hc trivial⟩
    · exact ite_no h3 ⟨by omega, by omega, ite_yes hc trivial⟩



noncomputable def s_welaw : Summ cod := fun args H => match args, H with
  | [.agg [.int .i64 r, .int .i64 t, .slc 0 l_i l_n l_t], .c (.str s)], [o0] => (match o0.asInp 2 with | some l => .need ((l_i = 0 ∧ l_n = List.length l)) (.ret (.c (.bool true), [])) | none => .fail)
  | _, _ => .fail


theorem welaw_sound : Sound Try.prog cod 3 s_welaw := sound_runs (cfg := C_Chk) L_Chk_ok mixed Try.func3 rfl rfl _ fun args H r news hg b0 hb => by
  unfold s_welaw at hg
  split at hg
  · skip
    split at hg
    · rename_i l hx0
      cases asInp_spec hx0
      simp only [T.gives, T.wp, Prod.mk.injEq] at hg
      obtain ⟨⟨rfl, rfl⟩, rfl, rfl⟩ := hg
      exact welaw_run _ _ _ _ _ b0 hb 
    · exact hg.elim
  · exact hg.elim

noncomputable def L_welaw : Sums cod := (3, .p s_welaw) :: L_Chk
noncomputable def C_welaw : Cfg cod := mkC L_welaw

theorem L_welaw_ok : Snd Try.prog cod L_welaw := .cons welaw_sound L_Chk_ok


end
end Go.Proofs.Ytbkpgpkeecnjpaa
end
section
/-
  A law's row out of its walk: whatever the parameters, if the walk returns true and writes nothing that was there, the row's step follows. No program in sight.
-/
namespace Go.Proofs.Ytbkpgpkeecnjpaa.Lift
open Go.ChangeShapes Go.WideShapes Go.ChangeAt Go.RowKit

section
variable {H : Type} {enc : TypeId × Value → H} {P : Program}

theorem trodAll_below (hl : laidOutB P = true) {W W' : World} (hb : Below W.heap.size W W') :
    ∀ (ts : List TypeId) (vs : List Value) (ds : List (DataW H)) (ps : List MemPlace), (∀ t ∈ ts, P.readableRec t = true ∧ t < P.types.size) →
      DataW.TrodAll enc P W 0 (fun _ => true) true ts vs ds ps → (∀ x ∈ ps, x.block < W.heap.size) →
      DataW.TrodAll enc P W' 0 (fun b => decide (b < W.heap.size)) true ts vs ds ps
  | [], [], [], _, _, h, _ => h
  | [], [], _ :: _, _, _, h, _ => h.elim
  | [], _ :: _, _, _, _, h, _ => h.elim
  | _ :: _, [], _, _, _, h, _ => h.elim
  | _ :: _, _ :: _, [], _, _, h, _ => h.elim
  | t :: ts, v :: vs, d :: ds, ps, hr, h, hlt => by
    obtain ⟨p, q, h1, h2, rfl⟩ := h
    have ht := hr t (List.mem_cons_self ..)
    exact ⟨p, q, Below.trod hl ht.1 ht.2 h1 hb (fun x hx => hlt x (List.mem_append.2 (.inl hx))),
      trodAll_below hl hb ts vs ds q (fun t h => hr t (List.mem_cons_of_mem _ h)) h2 (fun x hx => hlt x (List.mem_append.2 (.inr hx))), rfl⟩

theorem trodAll_length : ∀ (ts : List TypeId) (vs : List Value) (ds : List (DataW H)) (ps : List MemPlace) {W : World} {b : Nat} {sp : Nat → Bool} {hd : Bool}, DataW.TrodAll enc P W b sp hd ts vs ds ps → ds.length = ts.length ∧ vs.length = ts.length
  | [], [], [], _, _, _, _, _, _ => ⟨rfl, rfl⟩
  | [], [], _ :: _, _, _, _, _, _, h => h.elim
  | [], _ :: _, _, _, _, _, _, _, h => h.elim
  | _ :: _, [], _, _, _, _, _, _, h => h.elim
  | _ :: _, _ :: _, [], _, _, _, _, _, h => h.elim
  | _ :: ts, _ :: vs, _ :: ds, _, _, _, _, _, h => by
    obtain ⟨p, q, _, h2, rfl⟩ := h
    have := trodAll_length ts vs ds q h2
    simp [this]

/-- What a walk is told of its arguments. -/
structure Args (enc : TypeId × Value → H) (P : Program) (fn : Func) (W : World) (args : Array Value) (ds : List (DataW H)) (p : List MemPlace) : Prop where
  val : ∀ (j : Nat) t v, fn.params[j]? = some t → args[j]? = some v → ∃ base, Value.okWide P W .any base t v
  trod : DataW.TrodAll enc P W 0 (fun _ => true) true fn.params.toList args.toList ds p
  lt : ∀ x ∈ p, x.block < W.heap.size
  reach : (DataW.weightsEach P fn.params.toList ds).all (· ≤ reachBytes) = true
  free : W.noneFrozen p

theorem law {C : Checked} {os : Os} {f : FuncId} {fn : Func} {s : ChangeSpec} {tb : TypeId} (own : ownKnob C.prog.godebug = none) (started : os.Started) (noInit : C.prog.inits.idxOf? f = none) (hfn : C.prog.funcs[f]? = some fn)
    (witness : ∃ (w : World) (tape : Tape) (i : Input), w.os = os ∧ (w.forCall tape i).Shaped C.prog ∧ i.vars = [] ∧ Input.okWide C.prog (w.forCall tape i) .any w.heap.size f i ∧
      s.pre6 enc C.prog fn [] false (w.forCall tape i).memory i.args ∧ ({} : Assume).holds C.prog (lone (Frame.enter C.prog f i.args .normal) [] (w.forCall tape i)))
    (hvars : s.vars = []) (hres : fn.resultTypes = #[tb]) (htb : C.prog.underlying tb = some .bool) (hl : laidOutB C.prog = true)
    (hrb : (fn.params.toList.all fun t => C.prog.readableRec t && decide (t < C.prog.types.size)) = true)
    (hspec : ∀ ds : List (DataW H), ds.length = fn.params.toList.length → s.fn H ds = { results := [.lit (.bool true)], args := ds, vars := [] })
    (walk : ∀ (W : World) (args : Array Value) (ds : List (DataW H)) (p : List MemPlace), Args enc C.prog fn W args ds p →
      Calls C.prog f args W fun e W' => e = .returned (.bool true) ∧ Below W.heap.size W W') :
    ReturnsInHanded {} C os f .any (s.pre6 enc C.prog fn [] false) (s.post enc C.prog fn false true false false) := by
  have hrd : ∀ t ∈ fn.params.toList, C.prog.readableRec t = true ∧ t < C.prog.types.size := fun t ht => by
    have := List.all_eq_true.1 hrb t ht
    simpa using this
  refine returnsInHanded_of_change_sized own started noInit hfn witness ?_
  intro W base args ds gs before hval hW hcnd hsz _
  have hlt : ∀ x ∈ before, x.block < W.heap.size := fun x hx => hW.lt x hx
  have hW' := hW
  obtain ⟨p, q, hA, hV, rfl, hfz, hnd⟩ := hW
  rw [hvars] at hV
  obtain ⟨rfl, rfl⟩ := trodVars_none hV
  simp only [List.append_nil] at hlt hfz
  have hvt : s.plain.varTypes C.prog = [] := by simp [ChangeSpec.plain, DataSpec.varTypes, hvars]
  rw [hvt] at hsz
  simp only [List.append_nil] at hsz
  refine (walk W args ds p ⟨fun j t v hj hv => ⟨base, hval j t v hj hv⟩, hA, hlt, hsz, hfz⟩).mono fun e W' ⟨he, hb⟩ => ⟨_, he, ?_⟩
  have hds := (trodAll_length _ _ _ _ hA).1
  have hsp := hspec ds hds
  refine ⟨ds, [], _, [], p, [], hW', ?_, ?_, ?_, hb.frame _, fun h => by cases h⟩
  · rw [List.append_nil, hsp, hres]
    exact trodAll_cons_mk (shut_bool htb _) trodAll_mk0
  · rw [List.append_nil, hsp]
    exact trodAll_below hl hb _ _ _ _ hrd hA hlt
  · rw [List.append_nil, hsp, hvars]
    rfl
end
end Go.Proofs.Ytbkpgpkeecnjpaa.Lift
end
