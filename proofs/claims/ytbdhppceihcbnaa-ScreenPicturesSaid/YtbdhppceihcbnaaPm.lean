/- internal/bytealg.MakeNoZero inside a region: a row of its own, of n bytes that nobody knows. -/
import Derived.Test.YtbdhppceihcbnaaBd25
import Derived.Test.YtbdhppceihcbnaaSym45
import Derived.Lib.MakeNoZero
namespace Go.Proofs.Ytbdhppceihcbnaa
open Sym Go.RowKit

namespace Sym
section
variable {cod : Nat → Codec}
/-- One operation whose outcome is one of many. -/
def StepE (P : Program) (b0 : Base) (o : Oper) (st : St cod) {ι : Type} (C : ι → Prop) (F : ι → St cod) : Prop := ∀ (a : Act) (w : World) (K : Act → World → Prop) (Q : Exit → Act → World → Prop), Rel st b0 a w → (∀ i, C i → ∀ a' w', Rel (F i) b0 a' w' → K a' w') → o.wp P a w K Q
theorem chain_wp_app {P : Program} {b0 : Base} {ops : Array Oper} {Q : Exit → Act → World → Prop} (rest : List Oper) : ∀ (l : List Oper) (st s : St cod) (a : Act) (w : World), ChainW P b0 l st s → Rel st b0 a w → (∀ a' w', Rel s b0 a' w' → wpList P ops Q rest a' w') → wpList P ops Q (l ++ rest) a w
  | [], st, s, a, w, h, hR, hQ => by
    have h : s = st := h
    subst h
    exact hQ a w hR
  | o :: l, st, s, a, w, h, hR, hQ => by
    obtain ⟨hg, s1, h1, h2⟩ := h
    rw [List.cons_append]
    unfold wpList
    rw [if_pos (by simp [Region.wanted, hg])]
    exact .inl (h1 a w _ _ hR fun a' w' hR' => chain_wp_app rest l s1 s a' w' h2 hR' hQ)
/-- A region that does not draw: the run as far as one operation, that operation by hand with all its outcomes, the run to the region's end. -/
theorem Runs.midE {cfg : Cfg cod} (hS : CfgFit cfg) {b0 : Base} {id : Nat} {ops : Array Oper} {L k : List Item} (hL : L = .code (.region id ops false) :: k) {l1 l2 : List Oper} {o : Oper} (hsp : ops.toList = l1 ++ o :: l2) (hg : (ops.toList.all fun o => o.guard.isNone) = true) {st : St cod} {Q : St cod → Prop}
    {t1 : T (St cod)} (h1 : Sym.lexT cfg l1 st = t1) {ι : Type} (C : ι → Prop) (h : t1.wp fun s => ∃ F : ι → St cod, StepE cfg.P b0 o s C F ∧ ∀ i, C i → (Sym.lexT cfg l2 (F i)).wp fun s2 => Runs cfg.P b0 k s2 Q) : Runs cfg.P b0 L st Q := by
  subst hL
  subst h1
  obtain ⟨s, g1, F, g2, g3⟩ := T.wp_gives h
  have gn : ∀ o ∈ ops.toList, o.guard = none := fun o ho => by simpa using List.all_eq_true.1 hg o ho
  rw [hsp] at gn
  intro b cs a w hR
  have hw : (Code.region id ops false).wp cfg.P (fun e a' w' => e = .normal ∧ ∃ s2, Runs cfg.P b0 k s2 Q ∧ Rel s2 b0 a' w') a w := wp_region_list (by
    rw [hsp]
    refine chain_wp_app (o :: l2) l1 st s a w (chain_lexT hS l1 st s (fun o ho => gn o (by simp [ho])) g1) hR fun a1 w1 hR1 => ?_
    unfold wpList
    rw [if_pos (by simp [Region.wanted, gn o (by simp)])]
    refine .inl (g2 a1 w1 _ _ hR1 fun i hi a2 w2 hR2 => ?_)
    obtain ⟨s2, q1, q2⟩ := T.wp_gives (g3 i hi)
    exact chain_wp l2 (F i) s2 a2 w2 (chain_lexT hS l2 (F i) s2 (fun o ho => gn o (by simp [ho])) q1) hR2 fun a' w' hR' => ⟨rfl, s2, q2, hR'⟩)
  obtain ⟨e, a', w', ⟨rfl, s2, hr, hR'⟩, harr⟩ := hw b k cs
  obtain ⟨x, a'', w'', todo, q1, q2, q3⟩ := hr b cs a' w' hR'
  exact ⟨x, a'', w'', todo, q1, q2, Steps.trans harr q3⟩
end
end Sym
theorem digits_get : ∀ (n t : Nat) (acc : Array Value), ∃ l : List Int, l.length = n ∧ (Extern.BytealgMakeNoZero.digits n t acc).toList = acc.toList ++ l.map fun b => Value.int .u8 b
  | 0, _, acc => ⟨[], rfl, by simp [Extern.BytealgMakeNoZero.digits]⟩
  | n + 1, t, acc => by
    obtain ⟨l, h1, h2⟩ := digits_get n (t / 256) (acc.push (.int .u8 (Int.ofNat (t % 256))))
    refine ⟨Int.ofNat (t % 256) :: l, by simp [h1], ?_⟩
    rw [Extern.BytealgMakeNoZero.digits, h2]
    simp
theorem first_alt {motive : Array Value → Type} (n : Int) (a : (n : Int) → motive #[.int .i64 n]) (b : (x : Array Value) → motive x) : Extern.BytealgMakeNoZero.makeNoZero.match_3 motive #[.int .i64 n] a b = a n := rfl
/-- The new row's cells are the digits of some number. -/
theorem makeNoZero_digits {P : Program} (w : World) (ps : Array TypeId) (t e : TypeId) (ht : P.underlying t = some (.slice e)) (n : Nat) (hn : n ≤ 281474976710656) {v : Value} {cs : Array Value}
    (h : (Extern.BytealgMakeNoZero.makeNoZero ps #[t] #[.int .i64 n]).run P w = .ok v (w.drew.drew.alloc (.cells cs e))) : ∃ k d, cs = Extern.BytealgMakeNoZero.digits k d #[] := by
  have h1 : ¬ (n : Int) < 0 := by omega
  have h2 : ¬ (281474976710656 : Int) < (n : Int) := by omega
  delta Extern.BytealgMakeNoZero.makeNoZero at h
  dsimp only at h
  rw [first_alt] at h
  simp [run_underlying ht, h1, h2, Question.forced, newRow] at h
  have k := congrArg (fun v : World => v.heap[w.drew.drew.heap.size]?) h.2
  simp only [heap_alloc_new] at k
  injection k with k
  injection k with k
  exact ⟨_, _, k.symm⟩
theorem makeNoZero_bytes {P : Program} (w : World) (ps : Array TypeId) (t e : TypeId) (ht : P.underlying t = some (.slice e)) (n : Nat) (hn : n ≤ 281474976710656) :
    ∃ (cs : Array Value) (l : List Int), (Extern.BytealgMakeNoZero.makeNoZero ps #[t] #[.int .i64 n]).run P w = .ok (.slice (some ⟨w.heap.size, 0, none⟩) n cs.size) (w.drew.drew.alloc (.cells cs e)) ∧ n ≤ cs.size ∧ (n ≤ maxLen → cs.size ≤ maxLen) ∧ cs.toList = l.map fun b => Value.int .u8 b := by
  obtain ⟨cs, hrun, hn1, hn2⟩ := Go.Lib.run_makeNoZero (P := P) w ps t e ht n hn
  obtain ⟨k, d, rfl⟩ := makeNoZero_digits w ps t e ht n hn hrun
  obtain ⟨l, _, hl⟩ := digits_get k d #[]
  exact ⟨_, l, hrun, hn1, hn2, by simpa using hl⟩
theorem vals_u8 (l : List Int) : vals (cod 9) l = l.map fun b => Value.int .u8 b := by
  unfold vals
  induction l with
  | nil => rfl
  | cons b bs ih =>
    show List.map Cell.val ((cod 9).enc b ++ List.flatMap (cod 9).enc bs) = _
    rw [List.map_append, ih]
    rfl
theorem step_makeNoZero {b0 : Base} {o : Oper} {st : St cod} {x : Operand} {ts : Array TypeId} {n : Int}
    (hop : o.op = .call ⟨.value (.func 20), #[x], ts⟩) (hx : evS st.tmps x = .c (.int .i64 n)) (h0 : 0 ≤ n) (hn : n ≤ 1000000) :
    StepE Try.prog b0 o st (fun l : List Int => l.length = n.toNat) (fun l => st.put o.dst { v := .c (.own st.heap.length n.toNat), H := st.heap ++ [.own 9 l 5] }) := by
  intro a w K Q hR hK
  obtain ⟨env, hF, hd, G, hb, hK0, hK1, hK2⟩ := hR
  have hu : a.eval x = .int .i64 n := by
    have := eval_rel hF x
    rw [hx] at this
    exact this
  obtain ⟨m, rfl⟩ : ∃ m : Nat, n = m := ⟨n.toNat, by omega⟩
  obtain ⟨cs, l, hrun, hcs, hcm, hl⟩ := makeNoZero_bytes (P := Try.prog) w #[3] 40 5 (by kernel_rfl) m (by omega)
  have hexec : ((execOp a.eval o).run Try.prog w) = .ok (.value (.slice (some ⟨w.heap.size, 0, none⟩) m cs.size)) (w.drew.drew.alloc (.cells cs 5)) := by
    unfold execOp
    have em : (#[x] : Array Operand).map a.eval = #[.int .i64 (m : Int)] := by simp [hu]
    have ec : (callFunc 20 #[.int .i64 (m : Int)]).run Try.prog w = .ok (.value (.slice (some ⟨w.heap.size, 0, none⟩) m cs.size)) (w.drew.drew.alloc (.cells cs 5)) := by
      rw [run_callFunc_extern Try.func20 (by kernel_rfl) (by kernel_rfl) (by kernel_rfl) (e := Extern.BytealgMakeNoZero.makeNoZero #[3] #[40]) (by kernel_rfl), hrun]
      rfl
    simp only [hop, resolve, invoke, Sem.run_bind, Sem.run_pure, Result.andThen_ok]
    rw [em]
    exact ec
  have hll : l.length = cs.size := by
    have := congrArg List.length hl
    simpa using this.symm
  have hlm : (l.take m).length = m := by rw [List.length_take]; omega
  have own : (w.drew.drew.alloc (.cells cs 5)).ownsRow 0 5 (cod 9).size (.slice (some ⟨w.heap.size, 0, none⟩) m cs.size) (l.take m).length (vals (cod 9) (l.take m)) := by
    have e1 : (cod 9).size = 1 := rfl
    refine ⟨vals_len (cod 9) (l.take m), .inr ⟨w.heap.size, cs.size, cs, by rw [hlm], Nat.zero_le _, heap_alloc_new w.drew.drew _, by rw [hlm]; exact hcs, hcm (by unfold maxLen; omega), by rw [e1, Nat.mul_one], ?_⟩⟩
    refine Eq.trans ?_ (vals_u8 (l.take m)).symm
    rw [hlm, e1, Nat.mul_one, hl, List.map_take]
  have oo := own_obj (cod := cod) (u := 9) (l := l.take m) (v := .slice (some ⟨w.heap.size, 0, none⟩) m cs.size) (M := b0.mine) own (fun k hk => by
    simp only [Value.ownBlock, Option.some.injEq] at hk
    exact b0.new k (Nat.le_trans hb.size (Nat.le_of_eq hk))) (env.set st.heap.length ⟨w.heap.size, 0, (cod 9).size, .slice (some ⟨w.heap.size, 0, none⟩) m cs.size, []⟩) (st.heap.length + 1)
  have A : After env st.heap w b0.mine { v := .c (.own st.heap.length m), H := st.heap ++ [.own 9 (l.take m) 5] } (.slice (some ⟨w.heap.size, 0, none⟩) m cs.size) (w.drew.drew.alloc (.cells cs 5)) :=
    after_push (hv := ⟨w.heap.size, 0, (cod 9).size, .slice (some ⟨w.heap.size, 0, none⟩) m cs.size, []⟩) (G.push _ _ (by simp) (fun k hk => heap_alloc_old w.drew.drew _ hk) oo (fun k hk => by
      have hk : (Value.slice (some ⟨w.heap.size, 0, none⟩) m cs.size).ownBlock = some k := hk
      simp only [Value.ownBlock, Option.some.injEq] at hk
      omega)) (own_cell (cod := cod) (u := 9) (l := l.take m) own hlm.symm _ (by omega) (Env.set_same _ _ _)) (((Kin.refl _ w).drew.drew).alloc _)
  refine opRes_wp (R := After env st.heap w b0.mine { v := .c (.own st.heap.length m), H := st.heap ++ [.own 9 (l.take m) 5] }) (by rw [hexec]; exact A) fun v w' ⟨env', he, hN, hv, G', hb'⟩ => ?_
  refine hK (l.take m) (by simpa using hlm) _ _ ⟨env', put_rel hF (fun v hv' k hkv hkl hkn => he k hkl hkn) hN hv, by rw [put_defers]; exact hd, G', hb.trans hb', fun k hk' hn => ?_, ?_, fun k x h1 hx hown => ?_⟩
  · rw [he k (by omega) (fun e => by cases e)]
    exact hK0 k hk' hn
  · exact Nat.le_trans hK1 hN
  · have hl : k < st.heap.length := by omega
    have hx : (st.heap ++ [.own 9 (l.take m) 5] : Heap cod)[k]? = some x := hx
    rw [List.getElem?_append_left hl] at hx
    exact hK2 k x h1 hx hown
end Go.Proofs.Ytbdhppceihcbnaa
