/- Parts of the proof, one behind the other: Sym40, Hb, Sym24. -/
import Derived.Test.YtgmnfdmlidhbcaaBd26
import Derived.Test.YtgmnfdmlidhbcaaBd23
section
/- A block seen as one whose middle is a row of elements. -/
namespace Go.Proofs.Ytgmnfdmlidhbcaa.Sym
open Go.RowKit

section
variable {cod : Nat → Codec}
/-- References to k other than pointers into its first cells are forgotten. -/
def Cell.sar (k : Nat) (c : Cell) : Cell := match c with
  | .ptr h 0 o => .ptr h 0 o
  | c => if c.hs.contains k then .junk else c
def St.sar (k u n : Nat) (pre : List Cell) (l : List (cod u).α) (post : List Cell) (ty : TypeId) (st : St cod) : St cod :=
  { tmps := st.tmps.map (SV.mapC (Cell.sar k)), heap := (st.heap.map fun o => o.mapC (Cell.sar k)).set k (.sarr pre u n l post ty) }
def Env.sar (env : Env) (k s : Nat) : Env := fun i => if i = k then ⟨(env k).block, (env k).off, s, (env k).val⟩ else env i
theorem Env.sar_same (env : Env) (k s : Nat) : env.sar k s k = ⟨(env k).block, (env k).off, s, (env k).val⟩ := if_pos rfl
theorem Env.sar_other (env : Env) (s : Nat) {k j : Nat} (h : j ≠ k) : env.sar k s j = env j := if_neg h
theorem crel_sar {env : Env} {N k s : Nat} {c : Cell} {v : Value} (h : crel env N c v) : crel (env.sar k s) N (c.sar k) v := by
  have other : ∀ c : Cell, crel env N c v → c.hs.contains k = false → crel (env.sar k s) N c v := by
    intro c h hc
    have hne : ∀ j ∈ c.hs, j ≠ k := fun j hj e => by
      subst e
      have : c.hs.contains j = true := by simpa using hj
      rw [this] at hc
      cases hc
    have he : ∀ j ∈ c.hs, env.sar k s j = env j := fun j hj => Env.sar_other env s (hne j hj)
    cases c <;> simp only [crel, Cell.hs] at * <;> try exact h
    case ptr j i o => rw [he j (by simp)]; exact h
    case slc j i n t => rw [he j (by simp)]; exact h
    case own j n => rw [he j (by simp)]; exact h
    case fn f caps =>
      obtain ⟨h1, rfl⟩ := h
      refine ⟨h1, ?_⟩
      congr 2
      exact List.map_congr_left fun c hc => by rw [he c.1 (List.mem_map.2 ⟨c, hc, rfl⟩)]
  unfold Cell.sar
  split
  · rename_i j o
    obtain ⟨h1, rfl⟩ := h
    refine ⟨h1, ?_⟩
    by_cases e : j = k
    · subst e
      rw [Env.sar_same]
      simp [HV.addr]
    · rw [Env.sar_other _ _ e]
  · split
    · trivial
    · rename_i hc
      exact other _ h (by simpa using hc)
theorem sar_rel {st : St cod} {b : Base} {a : Act} {w : World} {k u n : Nat} {pre : List Cell} {l : List (cod u).α} {post : List Cell} {ty : TypeId} (hk : b.n ≤ k) (ho : getObj st.heap k = .blk (pre ++ (l.flatMap (cod u).enc ++ post)) ty) (hl : l.length = n) (hs : (pre ++ post).all Cell.scalar = true) (hR : Rel st b a w) : Rel (st.sar k u n pre l post ty) b a w := by
  obtain ⟨env, hF, hd, G, hkin, hK0, hK1, hK2⟩ := hR
  have hob := getObj_obj ho (by simp)
  have hkl : k < st.heap.length := (List.getElem?_eq_some_iff.1 hob).1
  obtain ⟨h1, h2, vs, h3, h4⟩ := G.obj k _ hob
  have hlen : (st.sar k u n pre l post ty).heap.length = st.heap.length := by simp [St.sar]
  have hsc : (pre ++ (l.flatMap (cod u).enc ++ post)).all Cell.scalar = true := by
    rw [List.all_append, Bool.and_eq_true] at hs
    rw [List.all_append, List.all_append, hs.1, hs.2, flat_all]
    rfl
  have hvs : vs = pre.map Cell.val ++ (vals (cod u) l ++ post.map Cell.val) := by
    rw [scalars_val hsc h4, List.map_append, List.map_append]
    rfl
  have get : ∀ (j : Nat) (o : HObj cod), (st.sar k u n pre l post ty).heap[j]? = some o → (j = k ∧ o = .sarr pre u n l post ty) ∨ (j ≠ k ∧ ∃ o0, st.heap[j]? = some o0 ∧ o = o0.mapC (Cell.sar k)) := fun j o hj => by
    simp only [St.sar] at hj
    by_cases e : j = k
    · subst e
      rw [List.getElem?_set_self (by simpa using hkl)] at hj
      exact .inl ⟨rfl, (Option.some.inj hj).symm⟩
    · rw [List.getElem?_set_ne (Ne.symm e), List.getElem?_map] at hj
      obtain ⟨o0, h1, rfl⟩ := Option.map_eq_some_iff.1 hj
      exact .inr ⟨e, o0, h1, rfl⟩
  have he : ∀ j, j ≠ k → env.sar k (cod u).size j = env j := fun j hj => Env.sar_other env _ hj
  have hs0 := Env.sar_same env k (cod u).size
  refine ⟨env.sar k (cod u).size, ?_, hd, ⟨fun j o hj => ?_, fun j j' o o' c hne hj hj' hw hc hc' => ?_, G.tab⟩, hkin, fun h h1 h2 => ?_, ?_, fun h o h1 hj hown => ?_⟩
  · rw [hlen]
    exact f2_map_mem (R := vrel env st.heap.length) (fun x _ v hv => vrel_map (fun c v hc => crel_sar hc) hv) hF
  · rw [hlen]
    rcases get j o hj with ⟨rfl, rfl⟩ | ⟨h5, o0, h6, rfl⟩
    · rw [hs0]
      exact ⟨h1, rfl, h2, hl, hs, by rw [← hvs]; exact h3⟩
    · rw [he j h5]
      exact objRel_map (fun c v hc => crel_sar hc) (G.obj _ _ h6)
  · rcases get j o hj with ⟨rfl, rfl⟩ | ⟨h5, o0, h6, rfl⟩
    · rw [hs0] at hc
      rcases get j' o' hj' with ⟨rfl, rfl⟩ | ⟨h5', o0', h6', rfl⟩
      · exact hne rfl
      · rw [he j' h5', has_map] at hc'
        exact G.sep _ j' _ o0' c hne hob h6' rfl hc hc'
    · rw [he j h5, has_map] at hc
      rw [wr_map] at hw
      rcases get j' o' hj' with ⟨rfl, rfl⟩ | ⟨h5', o0', h6', rfl⟩
      · rw [hs0] at hc'
        exact G.sep j _ o0 _ c hne h6 hob hw hc hc'
      · rw [he j' h5', has_map] at hc'
        exact G.sep j j' o0 o0' c hne h6 h6' hw hc hc'
  · rw [he h (by omega)]
    exact hK0 h h1 h2
  · rw [hlen]
    exact hK1
  · rcases get h o hj with ⟨rfl, _⟩ | ⟨_, o0, h6, rfl⟩
    · omega
    · rw [own_map] at hown
      exact hK2 h o0 h1 h6 hown
/-- A block as one whose middle is a row. -/
theorem Runs.sarr {P : Program} {b0 : Base} {kk : List Item} {st : St cod} {Q : St cod → Prop} (k u n : Nat) {N : Nat} (hb : b0.n = N) (hk : N ≤ k) (pre : List Cell) (l : List (cod u).α) (post : List Cell) (ty : TypeId) (ho : getObj st.heap k = .blk (pre ++ (l.flatMap (cod u).enc ++ post)) ty) (hl : l.length = n) (hs : (pre ++ post).all Cell.scalar = true) {st' : St cod} (e : st.sar k u n pre l post ty = st') (hr : Runs P b0 kk st' Q) : Runs P b0 kk st Q :=
  Runs.weaken (fun a w hR => by rw [← e]; exact sar_rel (by omega) ho hl hs hR) hr
/-- A block whose middle is a row of n elements of kind t. -/
def HObj.asSarr (t n : Nat) (ty : TypeId) : HObj cod → Option (List Cell × List (cod t).α × List Cell)
  | .sarr pre u m l post ty' => if h : u = t then (if m = n then (if ty' = ty then some (pre, h ▸ l, post) else none) else none) else none
  | _ => none
theorem asSarr_spec {t n : Nat} {ty : TypeId} {o : HObj cod} {pre : List Cell} {l : List (cod t).α} {post : List Cell} (h : o.asSarr t n ty = some (pre, l, post)) : o = .sarr pre t n l post ty := by
  cases o <;> simp only [HObj.asSarr] at h <;> try cases h
  split at h
  · rename_i e
    subst e
    split at h
    · rename_i e
      subst e
      split at h
      · rename_i e
        subst e
        cases h
        rfl
      · cases h
    · cases h
  · cases h
end
end Go.Proofs.Ytgmnfdmlidhbcaa.Sym
end
section
namespace Go.Proofs.Ytgmnfdmlidhbcaa
open Sym Go.RowKit
noncomputable section
set_option maxRecDepth 100000
set_option maxHeartbeats 4000000



namespace F
noncomputable def lvc (L : Nat → HL) : List Cell := (lv L).flatMap (cod 1).enc
def findG (L : Nat → HL) (c : List UInt8) : Nat → Nat → Int
  | 0, _ => -1
  | n + 1, i => if (L i).1 = c then (if c = [] then findG L c n (i + 1) else (i : Int)) else findG L c n (i + 1)
def find (L : Nat → HL) (c : List UInt8) : Int := findG L c 32 0
end F


def cuts_hfind : Cuts := [(2, [1, 10, 11], 1)]

theorem hfind_t0 (lo hi st : Int) (L : Nat → F.HL) (la : Int) (c : List UInt8) : symI C_rnamed cuts_hfind Try.f35.results.toList ([.sarr [.int .i64 lo, .int .i64 hi, .int .i64 st] 1 32 (F.lv L) [.int .i64 la] 60] : Heap cod) 400 [.code (codeOf Try.f35)] ⟨argsS Try.f35 [.c (.ptr 0 0 0), .c (.str c)], ([.sarr [.int .i64 lo, .int .i64 hi, .int .i64 st] 1 32 (F.lv L) [.int .i64 la] 60] : Heap cod)⟩ =
.ret (.cut (cutAt Try.f35 2) ⟨tmG 13 [(1, .c (.str c)), (8, .agg (F.lvc L)), (0, .c (.int .i64 0))], [.sarr [.int .i64 lo, .int .i64 hi, .int .i64 st] 1 32 (F.lv L) [.int .i64 la] 60]⟩) := by kernel_rfl


noncomputable def st_hfind_2 (lo hi st : Int) (L : Nat → F.HL) (la : Int) (c : List UInt8) (i : Int) : St cod := ⟨tmG 13 [(1, .c (.str c)), (8, .agg (F.lvc L)), (0, .c (.int .i64 i))], [.sarr [.int .i64 lo, .int .i64 hi, .int .i64 st] 1 32 (F.lv L) [.int .i64 la] 60]⟩


theorem hfind_t2 (lo hi st : Int) (L : Nat → F.HL) (la : Int) (c : List UInt8) (i : Int) : symI C_rnamed cuts_hfind Try.f35.results.toList ([.sarr [.int .i64 lo, .int .i64 hi, .int .i64 st] 1 32 (F.lv L) [.int .i64 la] 60] : Heap cod) 400 (cutAt Try.f35 2) (st_hfind_2 lo hi st L la c i) =
 cond (decide (i < 32)) (
 .need (((0 : Int) ≤ i ∧ i < Int.ofNat 32)) (
 cond (decide   ((List.getD         (F.lv L)         (Int.toNat i) (cod 1).d).1 =     c)) (
  cond (!decide (c = [])) (
   .ret (.fin (.c (.int .i64 i)) [.sarr [.int .i64 lo, .int .i64 hi, .int .i64 st] 1 32 (F.lv L) [.int .i64 la] 60])) (
   .need (i64ok (i + 1)) (
   .ret (.cut (cutAt Try.f35 2) ⟨tmG 13 [(1, .c (.str c)), (8, .agg (F.lvc L)), (0, .c (.int .i64 (i + 1)))], [.sarr [.int .i64 lo, .int .i64 hi, .int .i64 st] 1 32 (F.lv L) [.int .i64 la] 60]⟩)))) (
  .need (i64ok (i + 1)) (
  .ret (.cut (cutAt Try.f35 2) ⟨tmG 13 [(1, .c (.str c)), (8, .agg (F.lvc L)), (0, .c (.int .i64 (i + 1)))], [.sarr [.int .i64 lo, .int .i64 hi, .int .i64 st] 1 32 (F.lv L) [.int .i64 la] 60]⟩))))) (
 .ret (.fin (.c (.int .i64 (-1))) [.sarr [.int .i64 lo, .int .i64 hi, .int .i64 st] 1 32 (F.lv L) [.int .i64 la] 60])) := by kernel_rfl



theorem hfind_run (lo hi st : Int) (L : Nat → F.HL) (la : Int) (c : List UInt8) (b0 : Base) (hb : b0.n = 1)  : Sym.Runs Try.prog b0 [.code (codeOf Try.f35)] ⟨argsS Try.f35 [.c (.ptr 0 0 0), .c (.str c)], ([.sarr [.int .i64 lo, .int .i64 hi, .int .i64 st] 1 32 (F.lv L) [.int .i64 la] 60] : Heap cod)⟩ (Sym.EndsI Try.prog Try.f35 ([.sarr [.int .i64 lo, .int .i64 hi, .int .i64 st] 1 32 (F.lv L) [.int .i64 la] 60] : Heap cod) (.c (.int .i64 (F.find L c))) [.sarr [.int .i64 lo, .int .i64 hi, .int .i64 st] 1 32 (F.lv L) [.int .i64 la] 60]) := by
  have key : ∀ (m i : Nat), i + m = 32 → F.findG L c m i = F.find L c →
      Sym.Runs Try.prog b0 (cutAt Try.f35 2) (st_hfind_2 lo hi st L la c (i : Int)) (Sym.EndsI Try.prog Try.f35 ([.sarr [.int .i64 lo, .int .i64 hi, .int .i64 st] 1 32 (F.lv L) [.int .i64 la] 60] : Heap cod) (.c (.int .i64 (F.find L c))) ([.sarr [.int .i64 lo, .int .i64 hi, .int .i64 st] 1 32 (F.lv L) [.int .i64 la] 60] : Heap cod)) := by
    intro m
    induction m with
    | zero =>
      intro i hi' hR
      refine Runs.goI (cfg := C_rnamed) L_rnamed_ok mixed cuts_hfind 400 (H := ([.sarr [.int .i64 lo, .int .i64 hi, .int .i64 st] 1 32 (F.lv L) [.int .i64 la] 60] : Heap cod)) hb (hfind_t2 lo hi st L la c (i : Int)) ?_
      simp only [T.wp, T.wp_cond, Aft, Int.ofNat_eq_natCast, decide_eq_true_eq, and_true, true_and, Nat.zero_add, Bool.not_eq_true', decide_eq_false_iff_not]
      refine ite_no (by omega) ?_
      rw [← hR]
      rfl
    | succ m ih =>
      intro i hi' hR
      refine Runs.goI (cfg := C_rnamed) L_rnamed_ok mixed cuts_hfind 400 (H := ([.sarr [.int .i64 lo, .int .i64 hi, .int .i64 st] 1 32 (F.lv L) [.int .i64 la] 60] : Heap cod)) hb (hfind_t2 lo hi st L la c (i : Int)) ?_
      have nx := ih (i + 1) (by omega)
      have e : (F.lv L).getD i (cod 1).d = L i := lv_get L (by omega)
      have i1 : Sym.i64ok ((i : Int) + 1) := by unfold Sym.i64ok; omega
      unfold F.findG at hR
      simp only [T.wp, T.wp_cond, Aft, Int.ofNat_eq_natCast, decide_eq_true_eq, and_true, true_and, Nat.zero_add, Bool.not_eq_true', decide_eq_false_iff_not, Int.toNat_natCast, e]
      refine ite_yes (by omega) ⟨⟨by omega, by omega⟩, ?_⟩
      by_cases c1 : (L i).1 = c
      · rw [if_pos c1] at hR
        refine ite_yes c1 ?_
        by_cases c2 : c = []
        · rw [if_pos c2] at hR
          exact ite_no (fun q => q c2) ⟨i1, nx hR⟩
        · rw [if_neg c2] at hR
          refine ite_yes c2 ?_
          rw [← hR]
      · rw [if_neg c1] at hR
        exact ite_no c1 ⟨i1, nx hR⟩
  refine Runs.goI (cfg := C_rnamed) L_rnamed_ok mixed cuts_hfind 400 (H := ([.sarr [.int .i64 lo, .int .i64 hi, .int .i64 st] 1 32 (F.lv L) [.int .i64 la] 60] : Heap cod)) hb (hfind_t0 lo hi st L la c) ?_
  simp only [T.wp, T.wp_cond, Aft, Int.ofNat_eq_natCast, decide_eq_true_eq, and_true, true_and, Nat.zero_add, Bool.not_eq_true', decide_eq_false_iff_not]
  exact key 32 0 (by omega) rfl



noncomputable def s_hfind : Summ cod := fun args H => match args, H with
  | [.c (.ptr 0 0 0), .c (.str c)], [o0] => (match o0.asSarr 1 32 60 with | some ([.int .i64 lo, .int .i64 hi, .int .i64 st], l0, [.int .i64 la]) => .need (l0 = F.lv (F.un l0)) (.ret (.c (.int .i64 (F.find (F.un l0) c)), [.sarr [.int .i64 lo, .int .i64 hi, .int .i64 st] 1 32 l0 [.int .i64 la] 60])) | _ => .fail)
  | _, _ => .fail


theorem hfind_sound : SoundI Try.prog cod 35 s_hfind := tree_soundI (cfg := C_rnamed) Try.func35 rfl rfl _ fun args H r H' hg b0 hb => by
  unfold s_hfind at hg
  split at hg
  · skip
    split at hg
    · rename_i lo hi st l0 la hx0
      cases asSarr_spec hx0
      clear hx0
      obtain ⟨hl0, hg⟩ := hg
      generalize F.un l0 = L at hl0 hg
      subst hl0
      cases hg
      exact hfind_run _ _ _ _ _ _ b0 hb 
    · exact hg.elim
  · exact hg.elim

noncomputable def L_hfind : Sums cod := (35, .i s_hfind) :: L_rnamed
noncomputable def C_hfind : Cfg cod := mkC L_hfind

theorem L_hfind_ok : Snd Try.prog cod L_hfind := .consI hfind_sound L_rnamed_ok


end
end Go.Proofs.Ytgmnfdmlidhbcaa
end
section
/- A summary that hands back a made row as a row of the caller's own. -/
namespace Go.Proofs.Ytgmnfdmlidhbcaa.Sym
open Go.RowKit

section
variable {cod : Nat → Codec} {P : Program}
theorem scal_env {env env' : Env} {N N' : Nat} {c : Cell} {v : Value} (h : c.scalar = true) (hr : crel env N c v) : crel env' N' c v := by
  rw [scalar_val h hr]
  exact scalar_rel h
theorem scals_env {env env' : Env} {N N' : Nat} : ∀ {es : List Cell} {vs : List Value}, es.all Cell.scalar = true → F2 (vrel1 env N) (es.map SV.c) vs → F2 (vrel1 env' N') (es.map SV.c) vs
  | [], _, _, .nil => .nil
  | c :: es, _, h, .cons hc ht => by
    simp only [List.all_cons, Bool.and_eq_true] at h
    exact .cons (scal_env h.1 hc) (scals_env h.2 ht)
/-- The new row of a result as an own one. -/
inductive ArrOwn (N : Nat) : SV → Heap cod → SV → Heap cod → Prop where
  | tup (u : Nat) (l : List (cod u).α) (e : TypeId) (es : List Cell) (h : es.all Cell.scalar = true) (hl : 0 < l.length) :
    ArrOwn N (.tup (.c (.slc N 0 l.length true) :: es.map .c)) [.arr u l e] (.tup (.c (.own N l.length) :: es.map .c)) [.own u l e]
  | one (u : Nat) (l : List (cod u).α) (e : TypeId) (hl : 0 < l.length) :
    ArrOwn N (.c (.slc N 0 l.length true)) [.arr u l e] (.c (.own N l.length)) [.own u l e]
theorem arr_own_cell {env env' : Env} {H : Heap cod} {w w' : World} {u : Nat} {l : List (cod u).α} {e : TypeId} (hl : 0 < l.length) (G : Good env H w (newIn w)) (hb : w.heap.size ≤ w'.heap.size) (hk : ∀ k, k < w.heap.size → w'.heap[k]? = w.heap[k]?)
    (hg : Good env' (H ++ [.arr u l e]) w' (newIn w)) {v : Value} (hv : crel env' (H.length + 1) (.slc H.length 0 l.length true) v) :
    ∃ env2, EnvEq H.length env env2 ∧ crel env2 (H.length + 1) (.own H.length l.length) v ∧ Good env2 (H ++ [.own u l e]) w' (newIn w) := by
  obtain ⟨h1, A, c, rfl, h2, h3, h4, h5⟩ := hv
  have hc := h4 rfl
  subst hc
  have hA := h5 hl
  subst hA
  have ho := hg.obj H.length (.arr u l e) (by simp)
  obtain ⟨o1, o2, o3, o4⟩ := ho
  have hadr : (env' H.length).addr 0 0 = ⟨(env' H.length).block, 0, none⟩ := by simp [HV.addr, o1]
  have own : w'.ownsRow 0 e (cod u).size (.slice (some ((env' H.length).addr 0 0)) l.length l.length) l.length (vals (cod u) l) := by
    refine ⟨vals_len _ _, .inr ⟨(env' H.length).block, l.length, (vals (cod u) l).toArray, by rw [hadr], Nat.zero_le _, o4, Nat.le_refl _, h3, by simp [vals_len], ?_⟩⟩
    rw [List.toList_toArray, ← vals_len, List.take_length]
  refine ⟨env.set H.length ⟨(Value.slice (some ((env' H.length).addr 0 0)) l.length l.length).ownBlock.getD 0, 0, (cod u).size, .slice (some ((env' H.length).addr 0 0)) l.length l.length⟩, Env.set_eq env _ _, own_cell own rfl _ (by omega) (Env.set_same _ _ _), ?_⟩
  refine G.push _ _ hb hk (own_obj own (fun b hb => ?_) _ _) (fun b hb => ?_)
  · simp only [Value.ownBlock, hadr, Option.some.injEq] at hb
    rw [← hb]
    exact o3
  simp only [HObj.has, Value.ownBlock, Option.some.injEq] at hb
  rw [← hb]
  exact o3
theorem Sound.arr_own {g : FuncId} {s s' : Summ cod} (h : Sound P cod g s) (hs : ∀ (args : List SV) (H : Heap cod) (r : SV) (news : Heap cod), (s' args H).gives (r, news) → (s args H).gives (r, news) ∨ ∃ r0 news0, ArrOwn H.length r0 news0 r news ∧ (s args H).gives (r0, news0)) : Sound P cod g s' := by
  refine ⟨h.enters, fun args H env w vs r news hro G ha hg => ?_⟩
  rcases hs args H r news hg with hg | ⟨r0, news0, hc, hg⟩
  · exact h.calls args H env w vs r news hro G ha hg
  · refine (h.calls args H env w vs r0 news0 hro G ha hg).mono ?_
    rintro e w' ⟨v, env', rfl, heq, hv, hgd, hb⟩
    cases hc with
    | tup u l e es he hl =>
      obtain ⟨us, rfl, hu⟩ := hv
      generalize hus : us.toList = ul at hu
      cases hu with
      | @cons _ v0 _ vs' h0 ht =>
        obtain ⟨env2, g1, g2, g3⟩ := arr_own_cell hl G hb.below.size (fun k hk => hb.below.block k hk) hgd h0
        exact ⟨_, env2, rfl, g1, ⟨us, rfl, by rw [hus]; exact .cons g2 (scals_env he ht)⟩, g3, hb⟩
    | one u l e hl =>
      obtain ⟨env2, g1, g2, g3⟩ := arr_own_cell hl G hb.below.size (fun k hk => hb.below.block k hk) hgd hv
      exact ⟨_, env2, rfl, g1, g2, g3, hb⟩
end
end Go.Proofs.Ytgmnfdmlidhbcaa.Sym
end
