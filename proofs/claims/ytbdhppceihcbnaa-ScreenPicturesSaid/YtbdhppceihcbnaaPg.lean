/- Part of a claim: lemmas on the way to its theorem; each states its own conditions. -/
import Derived.Test.YtbdhppceihcbnaaPf
import Derived.Test.YtbdhppceihcbnaaBd40
import Derived.Test.YtbdhppceihcbnaaBd30
namespace Go.Proofs.Ytbdhppceihcbnaa
open Sym Go.RowKit
noncomputable section
set_option maxRecDepth 100000
set_option maxHeartbeats 4000000



noncomputable def s_pictN : Summ cod := fun args H => match args, H with
  | [.agg [.int .i64 cx, .int .i64 cy, .int .i64 s, .int .i64 w, .int .i64 h], .c .nil, .c (.slc 0 p_i p_n p_t)], [o0] => (match o0.asInp 1 with | some p => .need (p_i = 0 ∧ p_n = List.length p ∧ p.length ≤ 32) (.ret (.tup [.c (.own 1 (List.length (F.out cx cy s w h [] p))), .c (.int .i64 (F.picE cx cy s w h [] p))], [.own 5 (F.out cx cy s w h [] p) 9])) | none => .fail)
  | _, _ => .fail
noncomputable def s_pictB : Summ cod := s_or s_pictN s_pict


theorem pictN_sound : Sound Try.prog cod 4 s_pictN := by
  refine ⟨pict_sound.enters, fun args H env w0 vs r news hro G ha hg => ?_⟩
  unfold s_pictN at hg
  split at hg
  · rename_i cx cy s w h p_i p_n p_t o0
    split at hg
    · rename_i p hx0
      cases asInp_spec hx0
      obtain ⟨⟨rfl, rfl, h32⟩, hr⟩ := hg
      cases hr
      cases ha with
      | @cons _ v0 _ vs ha0 ha =>
        cases ha with
        | @cons _ v1 _ vs ha1 ha =>
          cases ha with
          | @cons _ v2 _ vs ha2 ha =>
            cases ha
            have e1 : v1 = .slice none 0 0 := ha1
            subst e1
            let env1 : Env := fun k => if k = 0 then ⟨0, 0, 1, .slice none 0 0, []⟩ else env (k - 1)
            have hp := G.obj 0 _ rfl
            have G1 : Sym.Good env1 ([.nin 1 [] none, .inp 1 p] : Heap cod) w0 (newIn w0) := by
              refine ⟨fun k o ho => ?_, fun k k' o o' b hne hk hk' hw => ?_, G.tab⟩
              · match k, ho with
                | 0, ho =>
                  cases ho
                  exact ⟨rfl, [], rfl, rfl, fun j u hu => by simp at hu, fun h => absurd rfl h, fun i v l hv => by simp at hv, fun q hq => by cases hq⟩
                | 1, ho =>
                  cases ho
                  exact hp
                | k + 2, ho => simp at ho
              · match k, hk with
                | 0, hk => cases hk; cases hw
                | 1, hk => cases hk; cases hw
                | k + 2, hk => simp at hk
            have hg1 : (s_pict [.agg [.int .i64 cx, .int .i64 cy, .int .i64 s, .int .i64 w, .int .i64 h], .c (.slc 0 0 0 false), .c (.slc 1 0 (List.length p) p_t)] [.nin 1 [] none, .inp 1 p]).gives (.tup [.c (.own 2 (List.length (F.out cx cy s w h [] p))), .c (.int .i64 (F.picE cx cy s w h [] p))], [.own 5 (F.out cx cy s w h [] p) 9]) :=
              ⟨⟨⟨rfl, rfl⟩, ⟨rfl, rfl⟩, by simp, h32⟩, rfl⟩
            obtain ⟨us, rfl, hus⟩ := ha0
            have hus1 : crels env1 2 [.int .i64 cx, .int .i64 cy, .int .i64 s, .int .i64 w, .int .i64 h] us.toList := by
              generalize us.toList = ul at hus ⊢
              cases hus with
              | cons a1 hus => cases hus with
                | cons a2 hus => cases hus with
                  | cons a3 hus => cases hus with
                    | cons a4 hus => cases hus with
                      | cons a5 hus =>
                        cases hus
                        exact .cons a1 (.cons a2 (.cons a3 (.cons a4 (.cons a5 .nil))))
            have hc := pict_sound.calls [.agg [.int .i64 cx, .int .i64 cy, .int .i64 s, .int .i64 w, .int .i64 h], .c (.slc 0 0 0 false), .c (.slc 1 0 (List.length p) p_t)] [.nin 1 [] none, .inp 1 p] env1 w0 [.agg us, .slice none 0 0, v2] _ _ rfl G1 (.cons ⟨us, rfl, hus1⟩ (.cons ⟨by show 0 < 2; omega, none, 0, rfl, Nat.le_refl _, Nat.zero_le _, (fun h => by cases h), fun h => by omega⟩ (.cons (by
                obtain ⟨_, A, c, g1, g2, g3, g4, g5⟩ := ha2
                exact ⟨by show 1 < 2; omega, A, c, g1, g2, g3, g4, g5⟩) .nil))) hg1
            refine hc.mono fun e w' hh => ?_
            obtain ⟨v, env', he, hE, hv, G', hb⟩ := hh
            refine ⟨v, fun k => env' (k + 1), he, fun k hk => ?_, ?_, ⟨fun k o ho => ?_, fun k k' o o' b hne hk hk' hw hh1 hh2 => ?_, G'.tab⟩, hb⟩
            · have hk : k < 1 := hk
              have ek : k = 0 := by omega
              subst ek
              exact hE 1 (by show 1 < 2; omega)
            · obtain ⟨ts, rfl, ht⟩ := hv
              refine ⟨ts, rfl, ?_⟩
              cases ht' : ts.toList with
              | nil => rw [ht'] at ht; cases ht
              | cons t0 t1 =>
                rw [ht'] at ht
                cases ht with
                | cons q0 q1 => cases t1 with
                  | nil => cases q1
                  | cons t1 t2 =>
                    cases q1 with
                    | cons q1 q2 =>
                      cases q2
                      obtain ⟨_, z1, z2⟩ := q0
                      exact .cons ⟨by show 1 < 2; omega, z1, z2⟩ (.cons q1 .nil)
            · match k, ho with
              | 0, ho =>
                cases ho
                exact G'.obj 1 _ rfl
              | 1, ho =>
                cases ho
                exact G'.obj 2 _ rfl
              | k + 2, ho => simp at ho
            · have sh : ∀ (k : Nat) (o : HObj cod), ([.inp 1 p] ++ [.own 5 (F.out cx cy s w h [] p) 9] : Heap cod)[k]? = some o → ([.nin 1 [] none, .inp 1 p] ++ [.own 5 (F.out cx cy s w h [] p) 9] : Heap cod)[k + 1]? = some o := fun k o hk => hk
              exact G'.sep (k + 1) (k' + 1) o o' b (by omega) (sh k o hk) (sh k' o' hk') hw hh1 hh2
    · exact hg.elim
  · exact hg.elim
theorem pictB_sound : Sound Try.prog cod 4 s_pictB := pictN_sound.or pict_sound

noncomputable def L_pictB : Sums cod := (4, .p s_pictB) :: L_pict
noncomputable def C_pictB : Cfg cod := mkC L_pictB

theorem L_pictB_ok : Snd Try.prog cod L_pictB := .cons pictB_sound L_pict_ok



def cuts_sp : Cuts := [(100006, [3, 2, 1], 3), (9, [68, 9, 10, 3, 2, 1, 69, 70, 11], 5), (100010, [68, 9, 10, 3, 2, 1, 69, 70, 11], 6), (14, [81, 68, 9, 10, 3, 2, 1, 69, 70, 82, 83, 11], 6), (100019, [68, 9, 10, 3, 2, 1, 69, 11, 70], 6), (21, [96, 9, 10, 3, 2, 1, 97, 98, 11], 5), (31, [3, 2, 1, 129, 130, 131], 5), (36, [18, 3, 2, 1, 19, 129, 130, 131, 142, 143], 5)]
def cuts_sp_r6 : Cuts := [(9, [68, 9, 10, 3, 2, 1, 69, 70, 11], 5), (100010, [68, 9, 10, 3, 2, 1, 69, 70, 11], 6), (14, [81, 68, 9, 10, 3, 2, 1, 69, 70, 82, 83, 11], 6), (100019, [68, 9, 10, 3, 2, 1, 69, 11, 70], 6), (21, [96, 9, 10, 3, 2, 1, 97, 98, 11], 5), (31, [3, 2, 1, 129, 130, 131], 5), (36, [18, 3, 2, 1, 19, 129, 130, 131, 142, 143], 5)]
def cuts_sp_r10 : Cuts := [(100006, [3, 2, 1], 3), (9, [68, 9, 10, 3, 2, 1, 69, 70, 11], 5), (14, [81, 68, 9, 10, 3, 2, 1, 69, 70, 82, 83, 11], 6), (100019, [68, 9, 10, 3, 2, 1, 69, 11, 70], 6), (21, [96, 9, 10, 3, 2, 1, 97, 98, 11], 5), (31, [3, 2, 1, 129, 130, 131], 5), (36, [18, 3, 2, 1, 19, 129, 130, 131, 142, 143], 5)]
def cuts_sp_r10b : Cuts := [(100006, [3, 2, 1], 3), (9, [68, 9, 10, 3, 2, 1, 69, 70, 11], 5), (14, [81, 68, 9, 10, 3, 2, 1, 69, 70, 82, 83, 11], 6), (100019, [68, 9, 10, 3, 2, 1, 69, 11, 70], 6), (21, [96, 9, 10, 3, 2, 1, 97, 98, 11], 5), (31, [3, 2, 1, 129, 130, 131], 5), (36, [18, 3, 2, 1, 19, 129, 130, 131, 142, 143], 5)]
def cuts_sp_r19 : Cuts := [(100006, [3, 2, 1], 3), (9, [68, 9, 10, 3, 2, 1, 69, 70, 11], 5), (100010, [68, 9, 10, 3, 2, 1, 69, 70, 11], 6), (14, [81, 68, 9, 10, 3, 2, 1, 69, 70, 82, 83, 11], 6), (21, [96, 9, 10, 3, 2, 1, 97, 98, 11], 5), (31, [3, 2, 1, 129, 130, 131], 5), (36, [18, 3, 2, 1, 19, 129, 130, 131, 142, 143], 5)]

theorem sp_t0 (cx cy s w h : Int) (l : List (List (Int × Int))) (l_t : Bool) (p : List (Int × Int)) (p_t : Bool) : symF C_pictB cuts_sp Try.f3.results.toList 2 400 [.code (codeOf Try.f3)] ⟨argsS Try.f3 [.agg [.int .i64 cx, .int .i64 cy, .int .i64 s, .int .i64 w, .int .i64 h], .c (.slc 0 0 (List.length l) l_t), .c (.slc 1 0 (List.length p) p_t)], ([.nin 1 l none, .inp 1 p] : Heap cod)⟩ =
.need ((0 = 0 ∧ (1 = 1 ∧ (1 : Nat) ≤ 32))) (
.need (((0 : Int) ≤ 0 ∧ (0 : Int) < Int.ofNat 1)) (
.need ((0 + Int.toNat 0 : Nat) < 1) (
.need (((1 : Int) = 1 ∧ (20 : Int) = 20)) (
.need (((1 : Int) = 1 ∧ (20 : Int) = 20)) (
.need (((0 : Int) ≤ min (Int.ofNat (List.length l)) 3 ∧ min (Int.ofNat (List.length l)) 3 ≤ Int.ofNat (List.length l))) (
.need (((0 : Int) ≤ min (Int.ofNat (List.length p)) 5 ∧ min (Int.ofNat (List.length p)) 5 ≤ Int.ofNat (List.length p))) (
.ret (.cut (regAt Try.f3 6) ⟨tmG 159 [(1, .c (.slc 0 0 (Int.toNat (min (Int.ofNat (List.length l)) 3)) false)), (0, .c (.slc 1 0 (Int.toNat (min (Int.ofNat (List.length p)) 5)) false)), (0, .c (.ptr 2 0 0))], [.nin 1 (l) none, .inp 1 p, .blk [.int .i64 cx, .int .i64 cy, .int .i64 s, .int .i64 (1 + w % 20), .int .i64 (1 + h % 20)] 25]⟩)))))))) := by kernel_rfl


noncomputable def st_sp_r6 (cx cy s w h : Int) (l : List (List (Int × Int))) (l_t : Bool) (p : List (Int × Int)) (p_t : Bool) (L : List (List (Int × Int))) (P : List (Int × Int)) (ww hh : Int) : St cod := ⟨tmG 159 [(1, .c (.slc 3 0 (List.length L) false)), (0, .c (.slc 1 0 (List.length P) false)), (0, .c (.ptr 2 0 0))], ([.nin 1 l none, .inp 1 P, .blk [.int .i64 cx, .int .i64 cy, .int .i64 s, .int .i64 ww, .int .i64 hh] 25, .nin 1 L none] : Heap cod)⟩


theorem sp_tr6 (cx cy s w h : Int) (l : List (List (Int × Int))) (l_t : Bool) (p : List (Int × Int)) (p_t : Bool) (L : List (List (Int × Int))) (P : List (Int × Int)) (ww hh : Int) : symF C_pictB cuts_sp_r6 Try.f3.results.toList 2 400 (regAt Try.f3 6) (st_sp_r6 cx cy s w h l l_t p p_t L P ww hh) =
.need (((0 = 0 ∧ List.length L = List.length L) ∧ ((0 = 0 ∧ List.length P = List.length P) ∧ (List.length L ≤ 12 ∧ List.length P ≤ 32)))) (
.ret (.cut (cutAt Try.f3 9) ⟨tmG 92 [(1, .c (.slc 3 0 (List.length L) false)), (0, .c (.slc 1 0 (List.length P) false)), (0, .c (.ptr 2 0 0)), (5, .c (.own 4 (List.length (F.out cx cy s ww hh L P)))), (0, .c (.int .i64 (F.picE cx cy s ww hh L P))), (0, .c (.int .i64 (F.vE cx cy s ww hh))), (56, .c (.slc 3 0 (List.length L) false)), (0, .c (.int .i64 (Int.ofNat (List.length L)))), (0, .c (.int .i64 0))], [.nin 1 (l) none, .inp 1 P, .blk [.int .i64 cx, .int .i64 cy, .int .i64 s, .int .i64 ww, .int .i64 hh] 25, .nin 1 (L) none, .own 5 (F.out cx cy s ww hh L P) 9]⟩)) := by kernel_rfl


noncomputable def st_sp_9 (cx cy s w h : Int) (l : List (List (Int × Int))) (l_t : Bool) (p : List (Int × Int)) (p_t : Bool) (L : List (List (Int × Int))) (P : List (Int × Int)) (ww hh : Int) (O : List (List UInt8)) (e f i : Int) : St cod := ⟨tmG 92 [(1, .c (.slc 3 0 (List.length L) false)), (0, .c (.slc 1 0 (List.length P) false)), (0, .c (.ptr 2 0 0)), (5, .c (.own 4 (List.length O))), (0, .c (.int .i64 e)), (0, .c (.int .i64 f)), (56, .c (.slc 3 0 (List.length L) false)), (0, .c (.int .i64 (Int.ofNat (List.length L)))), (0, .c (.int .i64 i))], ([.nin 1 l none, .inp 1 P, .blk [.int .i64 cx, .int .i64 cy, .int .i64 s, .int .i64 ww, .int .i64 hh] 25, .nin 1 L none, .own 5 O 9] : Heap cod)⟩


theorem sp_t9 (cx cy s w h : Int) (l : List (List (Int × Int))) (l_t : Bool) (p : List (Int × Int)) (p_t : Bool) (L : List (List (Int × Int))) (P : List (Int × Int)) (ww hh : Int) (O : List (List UInt8)) (e f i : Int) : symF C_pictB cuts_sp Try.f3.results.toList 2 400 (cutAt Try.f3 9) (st_sp_9 cx cy s w h l l_t p p_t L P ww hh O e f i) =
 cond (decide (i < Int.ofNat (List.length L))) (
 .ret (.cut (regAt Try.f3 10) ⟨tmG 92 [(1, .c (.slc 3 0 (List.length L) false)), (0, .c (.slc 1 0 (List.length P) false)), (0, .c (.ptr 2 0 0)), (5, .c (.own 4 (List.length O))), (0, .c (.int .i64 e)), (0, .c (.int .i64 f)), (56, .c (.slc 3 0 (List.length L) false)), (0, .c (.int .i64 (Int.ofNat (List.length L)))), (0, .c (.int .i64 i))], [.nin 1 (l) none, .inp 1 P, .blk [.int .i64 cx, .int .i64 cy, .int .i64 s, .int .i64 ww, .int .i64 hh] 25, .nin 1 (L) none, .own 5 O 9]⟩)) (
 .ret (.cut (cutAt Try.f3 21) ⟨tmG 64 [(1, .c (.slc 3 0 (List.length L) false)), (0, .c (.slc 1 0 (List.length P) false)), (0, .c (.ptr 2 0 0)), (5, .c (.own 4 (List.length O))), (0, .c (.int .i64 e)), (0, .c (.int .i64 f)), (84, .c (.slc 1 0 (List.length P) false)), (0, .c (.int .i64 (Int.ofNat (List.length P)))), (0, .c (.int .i64 0))], [.nin 1 (l) none, .inp 1 P, .blk [.int .i64 cx, .int .i64 cy, .int .i64 s, .int .i64 ww, .int .i64 hh] 25, .nin 1 (L) none, .own 5 O 9]⟩)) := by kernel_rfl


noncomputable def st_sp_r10 (cx cy s w h : Int) (l : List (List (Int × Int))) (l_t : Bool) (p : List (Int × Int)) (p_t : Bool) (L : List (List (Int × Int))) (P : List (Int × Int)) (ww hh : Int) (O : List (List UInt8)) (e f i : Int) : St cod := ⟨tmG 92 [(1, .c (.slc 3 0 (List.length L) false)), (0, .c (.slc 1 0 (List.length P) false)), (0, .c (.ptr 2 0 0)), (5, .c (.own 4 (List.length O))), (0, .c (.int .i64 e)), (0, .c (.int .i64 f)), (56, .c (.slc 3 0 (List.length L) false)), (0, .c (.int .i64 (Int.ofNat (List.length L)))), (0, .c (.int .i64 i))], [.nin 1 (l) none, .inp 1 P, .blk [.int .i64 cx, .int .i64 cy, .int .i64 s, .int .i64 ww, .int .i64 hh] 25, .nin 1 (L) none, .own 5 O 9]⟩


noncomputable def st_sp_r10b (cx cy s w h : Int) (l : List (List (Int × Int))) (l_t : Bool) (p : List (Int × Int)) (p_t : Bool) (L : List (List (Int × Int))) (P : List (Int × Int)) (ww hh : Int) (O : List (List UInt8)) (e f i : Int) (j : Nat) (q : List (Int × Int)) : St cod := ⟨tmG 92 [(1, .c (.slc 3 0 (List.length L) false)), (0, .c (.slc 1 0 (List.length P) false)), (0, .c (.ptr 2 0 0)), (5, .c (.own 4 (List.length O))), (0, .c (.int .i64 e)), (0, .c (.int .i64 f)), (56, .c (.slc 3 0 (List.length L) false)), (0, .c (.int .i64 (Int.ofNat (List.length L)))), (0, .c (.int .i64 i))], ([.nin 1 l none, .inp 1 P, .blk [.int .i64 cx, .int .i64 cy, .int .i64 s, .int .i64 ww, .int .i64 hh] 25, .nin 1 L (some (j, .slc 5 0 (List.length q) false)), .own 5 O 9, .inp 1 q] : Heap cod)⟩


theorem sp_tr10b (cx cy s w h : Int) (l : List (List (Int × Int))) (l_t : Bool) (p : List (Int × Int)) (p_t : Bool) (L : List (List (Int × Int))) (P : List (Int × Int)) (ww hh : Int) (O : List (List UInt8)) (e f i : Int) (j : Nat) (q : List (Int × Int)) : symF C_pictB cuts_sp_r10b Try.f3.results.toList 2 400 (regAt Try.f3 10) (st_sp_r10b cx cy s w h l l_t p p_t L P ww hh O e f i j q) =
.need (((0 : Int) ≤ i ∧ i < Int.ofNat (List.length L))) (
.need ((0 + Int.toNat i = j ∧ j < List.length L)) (
 cond (decide (f = 0)) (
 cond (decide (16 < Int.ofNat (List.length q))) (
  .ret (.cut (cutAt Try.f3 14) ⟨tmG 79 [(1, .c (.slc 3 0 (List.length L) false)), (0, .c (.slc 1 0 (List.length P) false)), (0, .c (.ptr 2 0 0)), (5, .c (.own 4 (List.length O))), (0, .c (.int .i64 e)), (0, .c (.int .i64 2)), (56, .c (.slc 3 0 (List.length L) false)), (0, .c (.int .i64 (Int.ofNat (List.length L)))), (0, .c (.int .i64 i)), (10, .c (.slc 5 0 (List.length q) false)), (0, .c (.int .i64 (Int.ofNat (List.length q)))), (0, .c (.int .i64 0))], [.nin 1 (l) none, .inp 1 P, .blk [.int .i64 cx, .int .i64 cy, .int .i64 s, .int .i64 ww, .int .i64 hh] 25, .nin 1 (L) (some ((j), .slc 5 0 (List.length q) false)), .own 5 O 9, .inp 1 q]⟩)) (
  .ret (.cut (cutAt Try.f3 14) ⟨tmG 79 [(1, .c (.slc 3 0 (List.length L) false)), (0, .c (.slc 1 0 (List.length P) false)), (0, .c (.ptr 2 0 0)), (5, .c (.own 4 (List.length O))), (0, .c (.int .i64 e)), (0, .c (.int .i64 f)), (56, .c (.slc 3 0 (List.length L) false)), (0, .c (.int .i64 (Int.ofNat (List.length L)))), (0, .c (.int .i64 i)), (10, .c (.slc 5 0 (List.length q) false)), (0, .c (.int .i64 (Int.ofNat (List.length q)))), (0, .c (.int .i64 0))], [.nin 1 (l) none, .inp 1 P, .blk [.int .i64 cx, .int .i64 cy, .int .i64 s, .int .i64 ww, .int .i64 hh] 25, .nin 1 (L) (some ((j), .slc 5 0 (List.length q) false)), .own 5 O 9, .inp 1 q]⟩))) (
 .ret (.cut (cutAt Try.f3 14) ⟨tmG 79 [(1, .c (.slc 3 0 (List.length L) false)), (0, .c (.slc 1 0 (List.length P) false)), (0, .c (.ptr 2 0 0)), (5, .c (.own 4 (List.length O))), (0, .c (.int .i64 e)), (0, .c (.int .i64 f)), (56, .c (.slc 3 0 (List.length L) false)), (0, .c (.int .i64 (Int.ofNat (List.length L)))), (0, .c (.int .i64 i)), (10, .c (.slc 5 0 (List.length q) false)), (0, .c (.int .i64 (Int.ofNat (List.length q)))), (0, .c (.int .i64 0))], [.nin 1 (l) none, .inp 1 P, .blk [.int .i64 cx, .int .i64 cy, .int .i64 s, .int .i64 ww, .int .i64 hh] 25, .nin 1 (L) (some ((j), .slc 5 0 (List.length q) false)), .own 5 O 9, .inp 1 q]⟩)))) := by kernel_rfl


noncomputable def st_sp_14 (cx cy s w h : Int) (l : List (List (Int × Int))) (l_t : Bool) (p : List (Int × Int)) (p_t : Bool) (L : List (List (Int × Int))) (P : List (Int × Int)) (ww hh : Int) (O : List (List UInt8)) (e f i : Int) (j : Nat) (q : List (Int × Int)) (k : Int) : St cod := ⟨tmG 79 [(1, .c (.slc 3 0 (List.length L) false)), (0, .c (.slc 1 0 (List.length P) false)), (0, .c (.ptr 2 0 0)), (5, .c (.own 4 (List.length O))), (0, .c (.int .i64 e)), (0, .c (.int .i64 f)), (56, .c (.slc 3 0 (List.length L) false)), (0, .c (.int .i64 (Int.ofNat (List.length L)))), (0, .c (.int .i64 i)), (10, .c (.slc 5 0 (List.length q) false)), (0, .c (.int .i64 (Int.ofNat (List.length q)))), (0, .c (.int .i64 k))], [.nin 1 (l) none, .inp 1 P, .blk [.int .i64 cx, .int .i64 cy, .int .i64 s, .int .i64 ww, .int .i64 hh] 25, .nin 1 (L) (some ((j), .slc 5 0 (List.length q) false)), .own 5 O 9, .inp 1 q]⟩


theorem sp_t14 (cx cy s w h : Int) (l : List (List (Int × Int))) (l_t : Bool) (p : List (Int × Int)) (p_t : Bool) (L : List (List (Int × Int))) (P : List (Int × Int)) (ww hh : Int) (O : List (List UInt8)) (e f i : Int) (j : Nat) (q : List (Int × Int)) (k : Int) : symF C_pictB cuts_sp Try.f3.results.toList 2 400 (cutAt Try.f3 14) (st_sp_14 cx cy s w h l l_t p p_t L P ww hh O e f i j q k) =
 cond (decide (k < Int.ofNat (List.length q))) (
 .need (((0 : Int) ≤ k ∧ k < Int.ofNat (List.length q))) (
 .need (0 + Int.toNat k < List.length q) (
 cond (decide (f = 0)) (
  cond (!F.placed (List.getD q (0 + Int.toNat k) (cod 1).d).1 (List.getD q (0 + Int.toNat k) (cod 1).d).2) (
   .need (i64ok (k + 1)) (
   .ret (.cut (cutAt Try.f3 14) ⟨tmG 79 [(1, .c (.slc 3 0 (List.length L) false)), (0, .c (.slc 1 0 (List.length P) false)), (0, .c (.ptr 2 0 0)), (5, .c (.own 4 (List.length O))), (0, .c (.int .i64 e)), (0, .c (.int .i64 4)), (56, .c (.slc 3 0 (List.length L) false)), (0, .c (.int .i64 (Int.ofNat (List.length L)))), (0, .c (.int .i64 i)), (10, .c (.slc 5 0 (List.length q) false)), (0, .c (.int .i64 (Int.ofNat (List.length q)))), (0, .c (.int .i64 (k + 1)))], [.nin 1 (l) none, .inp 1 P, .blk [.int .i64 cx, .int .i64 cy, .int .i64 s, .int .i64 ww, .int .i64 hh] 25, .nin 1 (L) (some ((j), .slc 5 0 (List.length q) false)), .own 5 O 9, .inp 1 q]⟩))) (
   .need (i64ok (k + 1)) (
   .ret (.cut (cutAt Try.f3 14) ⟨tmG 79 [(1, .c (.slc 3 0 (List.length L) false)), (0, .c (.slc 1 0 (List.length P) false)), (0, .c (.ptr 2 0 0)), (5, .c (.own 4 (List.length O))), (0, .c (.int .i64 e)), (0, .c (.int .i64 f)), (56, .c (.slc 3 0 (List.length L) false)), (0, .c (.int .i64 (Int.ofNat (List.length L)))), (0, .c (.int .i64 i)), (10, .c (.slc 5 0 (List.length q) false)), (0, .c (.int .i64 (Int.ofNat (List.length q)))), (0, .c (.int .i64 (k + 1)))], [.nin 1 (l) none, .inp 1 P, .blk [.int .i64 cx, .int .i64 cy, .int .i64 s, .int .i64 ww, .int .i64 hh] 25, .nin 1 (L) (some ((j), .slc 5 0 (List.length q) false)), .own 5 O 9, .inp 1 q]⟩)))) (
  .need (i64ok (k + 1)) (
  .ret (.cut (cutAt Try.f3 14) ⟨tmG 79 [(1, .c (.slc 3 0 (List.length L) false)), (0, .c (.slc 1 0 (List.length P) false)), (0, .c (.ptr 2 0 0)), (5, .c (.own 4 (List.length O))), (0, .c (.int .i64 e)), (0, .c (.int .i64 f)), (56, .c (.slc 3 0 (List.length L) false)), (0, .c (.int .i64 (Int.ofNat (List.length L)))), (0, .c (.int .i64 i)), (10, .c (.slc 5 0 (List.length q) false)), (0, .c (.int .i64 (Int.ofNat (List.length q)))), (0, .c (.int .i64 (k + 1)))], [.nin 1 (l) none, .inp 1 P, .blk [.int .i64 cx, .int .i64 cy, .int .i64 s, .int .i64 ww, .int .i64 hh] 25, .nin 1 (L) (some ((j), .slc 5 0 (List.length q) false)), .own 5 O 9, .inp 1 q]⟩)))))) (
 .ret (.cut (regAt Try.f3 19) ⟨tmG 92 [(1, .c (.slc 3 0 (List.length L) false)), (0, .c (.slc 1 0 (List.length P) false)), (0, .c (.ptr 2 0 0)), (5, .c (.own 4 (List.length O))), (0, .c (.int .i64 e)), (0, .c (.int .i64 f)), (56, .c (.slc 3 0 (List.length L) false)), (0, .c (.int .i64 (Int.ofNat (List.length L)))), (0, .c (.int .i64 i))], [.nin 1 (l) none, .inp 1 P, .blk [.int .i64 cx, .int .i64 cy, .int .i64 s, .int .i64 ww, .int .i64 hh] 25, .nin 1 (L) (some ((j), .slc 5 0 (List.length q) false)), .own 5 O 9, .inp 1 q]⟩)) := by kernel_rfl


noncomputable def st_sp_r19 (cx cy s w h : Int) (l : List (List (Int × Int))) (l_t : Bool) (p : List (Int × Int)) (p_t : Bool) (L : List (List (Int × Int))) (P : List (Int × Int)) (ww hh : Int) (O : List (List UInt8)) (e f i : Int) : St cod := ⟨tmG 92 [(1, .c (.slc 3 0 (List.length L) false)), (0, .c (.slc 1 0 (List.length P) false)), (0, .c (.ptr 2 0 0)), (5, .c (.own 4 (List.length O))), (0, .c (.int .i64 e)), (0, .c (.int .i64 f)), (56, .c (.slc 3 0 (List.length L) false)), (0, .c (.int .i64 (Int.ofNat (List.length L)))), (0, .c (.int .i64 i))], [.nin 1 (l) none, .inp 1 P, .blk [.int .i64 cx, .int .i64 cy, .int .i64 s, .int .i64 ww, .int .i64 hh] 25, .nin 1 (L) none, .own 5 O 9]⟩


theorem sp_tr19 (cx cy s w h : Int) (l : List (List (Int × Int))) (l_t : Bool) (p : List (Int × Int)) (p_t : Bool) (L : List (List (Int × Int))) (P : List (Int × Int)) (ww hh : Int) (O : List (List UInt8)) (e f i : Int) : symF C_pictB cuts_sp_r19 Try.f3.results.toList 2 400 (regAt Try.f3 19) (st_sp_r19 cx cy s w h l l_t p p_t L P ww hh O e f i) =
.need (i64ok (i + 1)) (
.ret (.cut (cutAt Try.f3 9) ⟨tmG 92 [(1, .c (.slc 3 0 (List.length L) false)), (0, .c (.slc 1 0 (List.length P) false)), (0, .c (.ptr 2 0 0)), (5, .c (.own 4 (List.length O))), (0, .c (.int .i64 e)), (0, .c (.int .i64 f)), (56, .c (.slc 3 0 (List.length L) false)), (0, .c (.int .i64 (Int.ofNat (List.length L)))), (0, .c (.int .i64 (i + 1)))], [.nin 1 (l) none, .inp 1 P, .blk [.int .i64 cx, .int .i64 cy, .int .i64 s, .int .i64 ww, .int .i64 hh] 25, .nin 1 (L) none, .own 5 O 9]⟩)) := by kernel_rfl


noncomputable def st_sp_21 (cx cy s w h : Int) (l : List (List (Int × Int))) (l_t : Bool) (p : List (Int × Int)) (p_t : Bool) (L : List (List (Int × Int))) (P : List (Int × Int)) (ww hh : Int) (O : List (List UInt8)) (e f k : Int) : St cod := ⟨tmG 64 [(1, .c (.slc 3 0 (List.length L) false)), (0, .c (.slc 1 0 (List.length P) false)), (0, .c (.ptr 2 0 0)), (5, .c (.own 4 (List.length O))), (0, .c (.int .i64 e)), (0, .c (.int .i64 f)), (84, .c (.slc 1 0 (List.length P) false)), (0, .c (.int .i64 (Int.ofNat (List.length P)))), (0, .c (.int .i64 k))], [.nin 1 (l) none, .inp 1 P, .blk [.int .i64 cx, .int .i64 cy, .int .i64 s, .int .i64 ww, .int .i64 hh] 25, .nin 1 (L) none, .own 5 O 9]⟩


theorem sp_t21 (cx cy s w h : Int) (l : List (List (Int × Int))) (l_t : Bool) (p : List (Int × Int)) (p_t : Bool) (L : List (List (Int × Int))) (P : List (Int × Int)) (ww hh : Int) (O : List (List UInt8)) (e f k : Int) : symF C_pictB cuts_sp Try.f3.results.toList 2 400 (cutAt Try.f3 21) (st_sp_21 cx cy s w h l l_t p p_t L P ww hh O e f k) =
 cond (decide (k < Int.ofNat (List.length P))) (
 .need (((0 : Int) ≤ k ∧ k < Int.ofNat (List.length P))) (
 .need (0 + Int.toNat k < List.length P) (
 cond (decide (f = 0)) (
  cond (!F.placed (List.getD P (0 + Int.toNat k) (cod 1).d).1 (List.getD P (0 + Int.toNat k) (cod 1).d).2) (
   .need (i64ok (k + 1)) (
   .ret (.cut (cutAt Try.f3 21) ⟨tmG 64 [(1, .c (.slc 3 0 (List.length L) false)), (0, .c (.slc 1 0 (List.length P) false)), (0, .c (.ptr 2 0 0)), (5, .c (.own 4 (List.length O))), (0, .c (.int .i64 e)), (0, .c (.int .i64 4)), (84, .c (.slc 1 0 (List.length P) false)), (0, .c (.int .i64 (Int.ofNat (List.length P)))), (0, .c (.int .i64 (k + 1)))], [.nin 1 (l) none, .inp 1 P, .blk [.int .i64 cx, .int .i64 cy, .int .i64 s, .int .i64 ww, .int .i64 hh] 25, .nin 1 (L) none, .own 5 O 9]⟩))) (
   .need (i64ok (k + 1)) (
   .ret (.cut (cutAt Try.f3 21) ⟨tmG 64 [(1, .c (.slc 3 0 (List.length L) false)), (0, .c (.slc 1 0 (List.length P) false)), (0, .c (.ptr 2 0 0)), (5, .c (.own 4 (List.length O))), (0, .c (.int .i64 e)), (0, .c (.int .i64 f)), (84, .c (.slc 1 0 (List.length P) false)), (0, .c (.int .i64 (Int.ofNat (List.length P)))), (0, .c (.int .i64 (k + 1)))], [.nin 1 (l) none, .inp 1 P, .blk [.int .i64 cx, .int .i64 cy, .int .i64 s, .int .i64 ww, .int .i64 hh] 25, .nin 1 (L) none, .own 5 O 9]⟩)))) (
  .need (i64ok (k + 1)) (
  .ret (.cut (cutAt Try.f3 21) ⟨tmG 64 [(1, .c (.slc 3 0 (List.length L) false)), (0, .c (.slc 1 0 (List.length P) false)), (0, .c (.ptr 2 0 0)), (5, .c (.own 4 (List.length O))), (0, .c (.int .i64 e)), (0, .c (.int .i64 f)), (84, .c (.slc 1 0 (List.length P) false)), (0, .c (.int .i64 (Int.ofNat (List.length P)))), (0, .c (.int .i64 (k + 1)))], [.nin 1 (l) none, .inp 1 P, .blk [.int .i64 cx, .int .i64 cy, .int .i64 s, .int .i64 ww, .int .i64 hh] 25, .nin 1 (L) none, .own 5 O 9]⟩)))))) (
 cond (!decide (f = 0)) (
  cond (decide (e = f)) (
   .ret (.fin (.c (.bool (decide (Int.ofNat (List.length O) = 0)))) [])) (
   .ret (.fin (.c (.bool false)) []))) (
  cond (!decide (e = 0)) (
   cond (decide (e = f)) (
    .ret (.fin (.c (.bool (decide (Int.ofNat (List.length O) = 0)))) [])) (
    .ret (.fin (.c (.bool false)) []))) (
   cond (!decide (Int.ofNat (List.length O) = hh)) (
    .ret (.fin (.c (.bool false)) [])) (
    .ret (.cut (cutAt Try.f3 31) ⟨tmG 31 [(1, .c (.slc 3 0 (List.length L) false)), (0, .c (.slc 1 0 (List.length P) false)), (0, .c (.ptr 2 0 0)), (125, .c (.own 4 (List.length O))), (0, .c (.int .i64 (Int.ofNat (List.length O)))), (0, .c (.int .i64 0))], [.nin 1 (l) none, .inp 1 P, .blk [.int .i64 cx, .int .i64 cy, .int .i64 s, .int .i64 ww, .int .i64 hh] 25, .nin 1 (L) none, .own 5 O 9]⟩))))) := by kernel_rfl


noncomputable def st_sp_31 (cx cy s w h : Int) (l : List (List (Int × Int))) (l_t : Bool) (p : List (Int × Int)) (p_t : Bool) (L : List (List (Int × Int))) (P : List (Int × Int)) (ww hh : Int) (O : List (List UInt8)) (y : Int) : St cod := ⟨tmG 31 [(1, .c (.slc 3 0 (List.length L) false)), (0, .c (.slc 1 0 (List.length P) false)), (0, .c (.ptr 2 0 0)), (125, .c (.own 4 (List.length O))), (0, .c (.int .i64 (Int.ofNat (List.length O)))), (0, .c (.int .i64 y))], [.nin 1 (l) none, .inp 1 P, .blk [.int .i64 cx, .int .i64 cy, .int .i64 s, .int .i64 ww, .int .i64 hh] 25, .nin 1 (L) none, .own 5 O 9]⟩


theorem sp_t31 (cx cy s w h : Int) (l : List (List (Int × Int))) (l_t : Bool) (p : List (Int × Int)) (p_t : Bool) (L : List (List (Int × Int))) (P : List (Int × Int)) (ww hh : Int) (O : List (List UInt8)) (y : Int) : symF C_pictB cuts_sp Try.f3.results.toList 2 400 (cutAt Try.f3 31) (st_sp_31 cx cy s w h l l_t p p_t L P ww hh O y) =
 cond (decide (y < Int.ofNat (List.length O))) (
 .need (((0 : Int) ≤ y ∧ y < Int.ofNat (List.length O))) (
 .need (0 + Int.toNat y < List.length O) (
 cond (!decide (Int.ofNat (List.length (List.getD O (0 + Int.toNat y) (cod 5).d)) = ww)) (
  .ret (.fin (.c (.bool false)) [])) (
  .ret (.cut (cutAt Try.f3 36) ⟨tmG 19 [(1, .c (.slc 3 0 (List.length L) false)), (0, .c (.slc 1 0 (List.length P) false)), (0, .c (.ptr 2 0 0)), (14, .c (.int .i64 y)), (0, .c (.str (List.getD O (0 + Int.toNat y) (cod 5).d))), (109, .c (.own 4 (List.length O))), (0, .c (.int .i64 (Int.ofNat (List.length O)))), (0, .c (.int .i64 y)), (10, .c (.int .i64 ww)), (0, .c (.int .i64 0))], [.nin 1 (l) none, .inp 1 P, .blk [.int .i64 cx, .int .i64 cy, .int .i64 s, .int .i64 ww, .int .i64 hh] 25, .nin 1 (L) none, .own 5 O 9]⟩))))) (
 .ret (.fin (.c (.bool true)) [])) := by kernel_rfl


noncomputable def st_sp_36 (cx cy s w h : Int) (l : List (List (Int × Int))) (l_t : Bool) (p : List (Int × Int)) (p_t : Bool) (L : List (List (Int × Int))) (P : List (Int × Int)) (ww hh : Int) (O : List (List UInt8)) (y : Int) (ln : List UInt8) (x : Int) : St cod := ⟨tmG 19 [(1, .c (.slc 3 0 (List.length L) false)), (0, .c (.slc 1 0 (List.length P) false)), (0, .c (.ptr 2 0 0)), (14, .c (.int .i64 y)), (0, .c (.str ln)), (109, .c (.own 4 (List.length O))), (0, .c (.int .i64 (Int.ofNat (List.length O)))), (0, .c (.int .i64 y)), (10, .c (.int .i64 ww)), (0, .c (.int .i64 x))], [.nin 1 (l) none, .inp 1 P, .blk [.int .i64 cx, .int .i64 cy, .int .i64 s, .int .i64 ww, .int .i64 hh] 25, .nin 1 (L) none, .own 5 O 9]⟩


theorem sp_t36 (cx cy s w h : Int) (l : List (List (Int × Int))) (l_t : Bool) (p : List (Int × Int)) (p_t : Bool) (L : List (List (Int × Int))) (P : List (Int × Int)) (ww hh : Int) (O : List (List UInt8)) (y : Int) (ln : List UInt8) (x : Int) : symF C_pictB cuts_sp Try.f3.results.toList 2 400 (cutAt Try.f3 36) (st_sp_36 cx cy s w h l l_t p p_t L P ww hh O y ln x) =
 cond (decide (x < ww)) (
 .need (((0 : Int) ≤ x ∧ x < Int.ofNat (List.length ln))) (
 .need (i64ok (hh - 1)) (
 .need (i64ok (hh - 1 - y)) (
 .need (((0 = 0 ∧ List.length L = List.length L) ∧ ((0 = 0 ∧ List.length P = List.length P) ∧ (F.vok cx cy s ww hh = true ∧ (F.polsE L = 0 ∧ (F.ptsE P = 0 ∧ (List.length L ≤ 12 ∧ (List.length P ≤ 32 ∧ (((-1000000 : Int) ≤ x ∧ x ≤ 1000000) ∧ ((-1000000 : Int) ≤ hh - 1 - y ∧ hh - 1 - y ≤ 1000000)))))))))) (
 cond (!decide (Int.ofNat (UInt8.toNat (List.getD ln (Int.toNat x) 0)) = F.pb (cx, cy, s, ww, hh) L P (x, hh - 1 - y))) (
  .ret (.fin (.c (.bool false)) [])) (
  .need (i64ok (x + 1)) (
  .ret (.cut (cutAt Try.f3 36) ⟨tmG 19 [(1, .c (.slc 3 0 (List.length L) false)), (0, .c (.slc 1 0 (List.length P) false)), (0, .c (.ptr 2 0 0)), (14, .c (.int .i64 y)), (0, .c (.str ln)), (109, .c (.own 4 (List.length O))), (0, .c (.int .i64 (Int.ofNat (List.length O)))), (0, .c (.int .i64 y)), (10, .c (.int .i64 ww)), (0, .c (.int .i64 (x + 1)))], [.nin 1 (l) none, .inp 1 P, .blk [.int .i64 cx, .int .i64 cy, .int .i64 s, .int .i64 ww, .int .i64 hh] 25, .nin 1 (L) none, .own 5 O 9]⟩)))))))) (
 .need (i64ok (y + 1)) (
 .ret (.cut (cutAt Try.f3 31) ⟨tmG 31 [(1, .c (.slc 3 0 (List.length L) false)), (0, .c (.slc 1 0 (List.length P) false)), (0, .c (.ptr 2 0 0)), (125, .c (.own 4 (List.length O))), (0, .c (.int .i64 (Int.ofNat (List.length O)))), (0, .c (.int .i64 (y + 1)))], [.nin 1 (l) none, .inp 1 P, .blk [.int .i64 cx, .int .i64 cy, .int .i64 s, .int .i64 ww, .int .i64 hh] 25, .nin 1 (L) none, .own 5 O 9]⟩))) := by kernel_rfl



theorem placed_pt (x y : Int) : F.placed x y = decide (F.pt x y = 0) := by
  unfold F.placed F.pt
  cases F.inb x (-1000000) 1000000 <;> cases F.inb y (-1000000) 1000000 <;> rfl
theorem pt_four {x y : Int} (h : ¬ F.pt x y = 0) : F.pt x y = 4 := by
  unfold F.pt at h ⊢
  split at h
  · exact absurd rfl h
  · rename_i c
    rw [if_neg c]
theorem pb_cases (v : F.Vw) (l : List (List (Int × Int))) (ps : List (Int × Int)) (c : Int × Int) : F.pb v l ps c = 111 ∨ F.pb v l ps c = 46 ∨ F.pb v l ps c = 32 := by
  unfold F.pb
  split
  · exact .inl rfl
  · split
    · exact .inr (.inl rfl)
    · exact .inr (.inr rfl)
theorem byte_of (a : Int) : Sym.byteOf (cod 9) a = UInt8.ofNat a.toNat := rfl
theorem bts_get (R : List Int) (x : Nat) (hx : x < R.length) : (F.bts R).getD x 0 = UInt8.ofNat (R.getD x 0).toNat := by
  show (R.map fun a : Int => UInt8.ofNat a.toNat).getD x 0 = _
  rw [List.getD_eq_getElem?_getD, List.getElem?_map, List.getElem?_eq_getElem hx, List.getD_eq_getElem?_getD, List.getElem?_eq_getElem hx]
  rfl
theorem bts_len (R : List Int) : (F.bts R).length = R.length := List.length_map ..
theorem sp_l36 (cx cy s w h : Int) (l : List (List (Int × Int))) (l_t : Bool) (p : List (Int × Int)) (p_t : Bool) (L : List (List (Int × Int))) (P : List (Int × Int)) (ww hh : Int) (b0 : Base) (hb : b0.n = 2) (hv : F.vok cx cy s ww hh = true) (hl : F.polsE L = 0) (hp : F.ptsE P = 0) (h12 : L.length ≤ 12) (h32 : P.length ≤ 32) (hw : 1 ≤ ww ∧ ww ≤ 60) (hh1 : 1 ≤ hh ∧ hh ≤ 60) (O : List (List UInt8)) (y : Nat) (hy : (y : Int) < hh) (R : List Int) (hRl : (R.length : Int) = ww)
    (hR : ∀ x : Nat, (x : Int) < ww → R.getD x 0 = F.pb (cx, cy, s, ww, hh) L P ((x : Int), hh - 1 - (y : Int)))
    (nx : Sym.Runs Try.prog b0 (cutAt Try.f3 31) (st_sp_31 cx cy s w h l l_t p p_t L P ww hh O ((y : Int) + 1)) (Sym.Ends Try.prog Try.f3 2 (.c (.bool true)) [])) :
    ∀ (r x : Nat), x + r = ww.toNat → Sym.Runs Try.prog b0 (cutAt Try.f3 36) (st_sp_36 cx cy s w h l l_t p p_t L P ww hh O (y : Int) (F.bts R) (x : Int)) (Sym.Ends Try.prog Try.f3 2 (.c (.bool true)) []) := by
  intro r
  induction r with
  | zero =>
    intro x hx
    refine Runs.go (cfg := C_pictB) L_pictB_ok mixed cuts_sp 400 hb (sp_t36 cx cy s w h l l_t p p_t L P ww hh O (y : Int) (F.bts R) (x : Int)) ?_
    simp only [T.wp, T.wp_cond, Aft, Int.ofNat_eq_natCast, decide_eq_true_eq, and_true, true_and, Bool.not_eq_true', decide_eq_false_iff_not]
    exact ite_no (by omega) ⟨by unfold i64ok; omega, nx⟩
  | succ r ih =>
    intro x hx
    have nx2 := ih (x + 1) (by omega)
    rw [Int.natCast_succ] at nx2
    have hxw : (x : Int) < ww := by omega
    have hbl := bts_len R
    have hval := hR x hxw
    have hpc := pb_cases (cx, cy, s, ww, hh) L P ((x : Int), hh - 1 - (y : Int))
    have hb2 := bts_get R x (by omega)
    have hch : ((((F.bts R).getD x 0).toNat : Nat) : Int) = F.pb (cx, cy, s, ww, hh) L P ((x : Int), hh - 1 - (y : Int)) := by
      rw [hb2, hval]
      rcases hpc with e | e | e <;> rw [e] <;> rfl
    refine Runs.go (cfg := C_pictB) L_pictB_ok mixed cuts_sp 400 hb (sp_t36 cx cy s w h l l_t p p_t L P ww hh O (y : Int) (F.bts R) (x : Int)) ?_
    simp only [T.wp, T.wp_cond, Aft, Int.ofNat_eq_natCast, decide_eq_true_eq, and_true, true_and, Bool.not_eq_true', decide_eq_false_iff_not, Int.toNat_natCast]
    refine ite_yes hxw ⟨⟨by omega, by omega⟩, by unfold i64ok; omega, by unfold i64ok; omega, ⟨hv, hl, hp, h12, h32, ⟨by omega, by omega⟩, by omega, by omega⟩, ite_no (fun g => g hch) ⟨by unfold i64ok; omega, nx2⟩⟩
theorem sp_l31 (cx cy s w h : Int) (l : List (List (Int × Int))) (l_t : Bool) (p : List (Int × Int)) (p_t : Bool) (L : List (List (Int × Int))) (P : List (Int × Int)) (ww hh : Int) (b0 : Base) (hb : b0.n = 2) (hv : F.vok cx cy s ww hh = true) (hl : F.polsE L = 0) (hp : F.ptsE P = 0) (h12 : L.length ≤ 12) (h32 : P.length ≤ 32) (hw : 1 ≤ ww ∧ ww ≤ 60) (hh1 : 1 ≤ hh ∧ hh ≤ 60) :
    ∀ (r y : Nat), y + r = hh.toNat → Sym.Runs Try.prog b0 (cutAt Try.f3 31) (st_sp_31 cx cy s w h l l_t p p_t L P ww hh (F.oG (F.pic (cx, cy, s, ww, hh) L P) hh.toNat hh.toNat) (y : Int)) (Sym.Ends Try.prog Try.f3 2 (.c (.bool true)) []) := by
  have hSh : F.Sh ww hh (F.pic (cx, cy, s, ww, hh) L P) := F.pic_sh (v := (cx, cy, s, ww, hh)) L P (by show 0 ≤ ww; omega) ⟨by show 0 ≤ hh; omega, hh1.2⟩
  have hpx : ∀ x y : Int, 0 ≤ x ∧ x < ww → 0 ≤ y ∧ y < hh → F.px (F.pic (cx, cy, s, ww, hh) L P) x y = F.pb (cx, cy, s, ww, hh) L P (x, y) := fun x y hx hy => F.pb_eq (v := (cx, cy, s, ww, hh)) L P (by show 0 ≤ ww; omega) ⟨by show 0 ≤ hh; omega, hh1.2⟩ hx hy
  have hOl := F.oG_len (F.pic (cx, cy, s, ww, hh) L P) hh.toNat hh.toNat
  have hOg := F.oG_get (F.pic (cx, cy, s, ww, hh) L P) hh.toNat hh.toNat
  generalize F.oG (F.pic (cx, cy, s, ww, hh) L P) hh.toNat hh.toNat = O at *
  intro r
  induction r with
  | zero =>
    intro y hy
    refine Runs.go (cfg := C_pictB) L_pictB_ok mixed cuts_sp 400 hb (sp_t31 cx cy s w h l l_t p p_t L P ww hh O (y : Int)) ?_
    simp only [T.wp, T.wp_cond, Aft, Int.ofNat_eq_natCast, decide_eq_true_eq, and_true, Nat.zero_add, Bool.not_eq_true', decide_eq_false_iff_not]
    exact ite_no (by omega) trivial
  | succ r ih =>
    intro y hy
    have nx := ih (y + 1) (by omega)
    rw [Int.natCast_succ] at nx
    have hrow := hSh.2 (hh.toNat - 1 - y) (by omega)
    have eg : O.getD y (cod 5).d = F.bts ((F.pic (cx, cy, s, ww, hh) L P).getD (hh.toNat - 1 - y) []) := hOg y (by omega)
    have h36 := sp_l36 cx cy s w h l l_t p p_t L P ww hh b0 hb hv hl hp h12 h32 hw hh1 O y (by omega) ((F.pic (cx, cy, s, ww, hh) L P).getD (hh.toNat - 1 - y) []) hrow (fun x hx => by
      have := hpx (x : Int) (hh - 1 - (y : Int)) ⟨by omega, hx⟩ ⟨by omega, by omega⟩
      rw [← this]
      unfold F.px
      rw [show (hh - 1 - (y : Int)).toNat = hh.toNat - 1 - y by omega, Int.toNat_natCast]) nx ww.toNat 0 (Nat.zero_add _)
    have hbl := bts_len ((F.pic (cx, cy, s, ww, hh) L P).getD (hh.toNat - 1 - y) [])
    refine Runs.go (cfg := C_pictB) L_pictB_ok mixed cuts_sp 400 hb (sp_t31 cx cy s w h l l_t p p_t L P ww hh O (y : Int)) ?_
    simp only [T.wp, T.wp_cond, Aft, Int.ofNat_eq_natCast, decide_eq_true_eq, and_true, Nat.zero_add, Bool.not_eq_true', decide_eq_false_iff_not, Int.toNat_natCast]
    rw [eg]
    refine ite_yes (by omega) ⟨⟨by omega, by omega⟩, by omega, ite_no (fun g => g (by omega)) h36⟩
theorem sp_l21 (cx cy s w h : Int) (l : List (List (Int × Int))) (l_t : Bool) (p : List (Int × Int)) (p_t : Bool) (L : List (List (Int × Int))) (P : List (Int × Int)) (ww hh : Int) (b0 : Base) (hb : b0.n = 2) (h32 : P.length ≤ 32) (O : List (List UInt8)) (e : Int)
    (fin : Sym.Runs Try.prog b0 (cutAt Try.f3 21) (st_sp_21 cx cy s w h l l_t p p_t L P ww hh O e e (P.length : Int)) (Sym.Ends Try.prog Try.f3 2 (.c (.bool true)) [])) :
    ∀ (r k : Nat) (f : Int), k + r = P.length → e = (if f = 0 then F.ptsE (P.drop k) else f) → Sym.Runs Try.prog b0 (cutAt Try.f3 21) (st_sp_21 cx cy s w h l l_t p p_t L P ww hh O e f (k : Int)) (Sym.Ends Try.prog Try.f3 2 (.c (.bool true)) []) := by
  have ed : (cod 1).d = ((0, 0) : Int × Int) := rfl
  intro r
  induction r with
  | zero =>
    intro k f hk hf
    rw [List.drop_eq_nil_of_le (by omega), F.ptsE] at hf
    have ef : f = e := by
      split at hf
      · rename_i c; rw [hf, c]
      · exact hf.symm
    have ek : k = P.length := by omega
    subst ek
    rw [ef]
    exact fin
  | succ r ih =>
    intro k f hk hf
    have hkP : k < P.length := by omega
    rw [dropc P (0, 0) k hkP, F.ptsE] at hf
    refine Runs.go (cfg := C_pictB) L_pictB_ok mixed cuts_sp 400 hb (sp_t21 cx cy s w h l l_t p p_t L P ww hh O e f (k : Int)) ?_
    have hk64 : i64ok ((k : Int) + 1) := by unfold i64ok; omega
    simp only [T.wp, T.wp_cond, Aft, Int.ofNat_eq_natCast, decide_eq_true_eq, and_true, Nat.zero_add, Bool.not_eq_true', decide_eq_false_iff_not, Int.toNat_natCast, ed, placed_pt]
    generalize P.getD k (0, 0) = a at *
    refine ite_yes (by omega) ⟨⟨by omega, by omega⟩, hkP, ?_⟩
    by_cases c : f = 0
    · rw [if_pos c] at hf
      refine ite_yes c ?_
      by_cases c2 : F.pt a.1 a.2 = 0
      · rw [if_pos c2] at hf
        have nx := ih (k + 1) f (by omega) (by rw [if_pos c]; exact hf)
        rw [Int.natCast_succ] at nx
        exact ite_no (fun g => g c2) ⟨hk64, nx⟩
      · rw [if_neg c2, pt_four c2] at hf
        have nx := ih (k + 1) 4 (by omega) (by rw [if_neg (by decide)]; exact hf)
        rw [Int.natCast_succ] at nx
        exact ite_yes c2 ⟨hk64, nx⟩
    · rw [if_neg c] at hf
      have nx := ih (k + 1) f (by omega) (by rw [if_neg c]; exact hf)
      rw [Int.natCast_succ] at nx
      exact ite_no c ⟨hk64, nx⟩
theorem sp_l14 (cx cy s w h : Int) (l : List (List (Int × Int))) (l_t : Bool) (p : List (Int × Int)) (p_t : Bool) (L : List (List (Int × Int))) (P : List (Int × Int)) (ww hh : Int) (b0 : Base) (hb : b0.n = 2) (O : List (List UInt8)) (e F' : Int) (i : Nat) (hi : i ≤ 12) (q : List (Int × Int)) (hq : q.length ≤ maxLen)
    (fin : Sym.Runs Try.prog b0 (cutAt Try.f3 9) (st_sp_9 cx cy s w h l l_t p p_t L P ww hh O e F' ((i : Int) + 1)) (Sym.Ends Try.prog Try.f3 2 (.c (.bool true)) [])) :
    ∀ (r k : Nat) (f : Int), k + r = q.length → F' = (if f = 0 then F.ptsE (q.drop k) else f) → Sym.Runs Try.prog b0 (cutAt Try.f3 14) (st_sp_14 cx cy s w h l l_t p p_t L P ww hh O e f (i : Int) i q (k : Int)) (Sym.Ends Try.prog Try.f3 2 (.c (.bool true)) []) := by
  have ed : (cod 1).d = ((0, 0) : Int × Int) := rfl
  intro r
  induction r with
  | zero =>
    intro k f hk hf
    rw [List.drop_eq_nil_of_le (by omega), F.ptsE] at hf
    have ef : f = F' := by
      split at hf
      · rename_i c; rw [hf, c]
      · exact hf.symm
    rw [ef]
    refine Runs.go (cfg := C_pictB) L_pictB_ok mixed cuts_sp 400 hb (sp_t14 cx cy s w h l l_t p p_t L P ww hh O e F' (i : Int) i q (k : Int)) ?_
    simp only [T.wp, T.wp_cond, Aft, Int.ofNat_eq_natCast, decide_eq_true_eq, Nat.zero_add, Bool.not_eq_true']
    refine ite_no (by omega) (Runs.close 3 rfl ?_)
    refine Runs.weaken (st' := st_sp_r19 cx cy s w h l l_t p p_t L P ww hh O e F' (i : Int)) (fun a w hR => fit_rel [68, 9, 10, 3, 2, 1, 69, 11, 70] 5 (by omega) hR) ?_
    refine Runs.go (cfg := C_pictB) L_pictB_ok mixed cuts_sp_r19 400 hb (sp_tr19 cx cy s w h l l_t p p_t L P ww hh O e F' (i : Int)) ?_
    simp only [T.wp, Aft, Int.ofNat_eq_natCast]
    exact ⟨by unfold i64ok; omega, fin⟩
  | succ r ih =>
    intro k f hk hf
    have hkP : k < q.length := by omega
    rw [dropc q (0, 0) k hkP, F.ptsE] at hf
    refine Runs.go (cfg := C_pictB) L_pictB_ok mixed cuts_sp 400 hb (sp_t14 cx cy s w h l l_t p p_t L P ww hh O e f (i : Int) i q (k : Int)) ?_
    have hk64 : i64ok ((k : Int) + 1) := by unfold i64ok; unfold maxLen at hq; omega
    simp only [T.wp, T.wp_cond, Aft, Int.ofNat_eq_natCast, decide_eq_true_eq, Nat.zero_add, Bool.not_eq_true', decide_eq_false_iff_not, Int.toNat_natCast, ed, placed_pt]
    generalize q.getD k (0, 0) = a at *
    refine ite_yes (by omega) ⟨⟨by omega, by omega⟩, hkP, ?_⟩
    by_cases c : f = 0
    · rw [if_pos c] at hf
      refine ite_yes c ?_
      by_cases c2 : F.pt a.1 a.2 = 0
      · rw [if_pos c2] at hf
        have nx := ih (k + 1) f (by omega) (by rw [if_pos c]; exact hf)
        rw [Int.natCast_succ] at nx
        exact ite_no (fun g => g c2) ⟨hk64, nx⟩
      · rw [if_neg c2, pt_four c2] at hf
        have nx := ih (k + 1) 4 (by omega) (by rw [if_neg (by decide)]; exact hf)
        rw [Int.natCast_succ] at nx
        exact ite_yes c2 ⟨hk64, nx⟩
    · rw [if_neg c] at hf
      have nx := ih (k + 1) f (by omega) (by rw [if_neg c]; exact hf)
      rw [Int.natCast_succ] at nx
      exact ite_no c ⟨hk64, nx⟩
theorem sp_l9 (cx cy s w h : Int) (l : List (List (Int × Int))) (l_t : Bool) (p : List (Int × Int)) (p_t : Bool) (L : List (List (Int × Int))) (P : List (Int × Int)) (ww hh : Int) (b0 : Base) (hb : b0.n = 2) (h12 : L.length ≤ 12) (O : List (List UInt8)) (e F' : Int) (hLb : ∀ i, i < L.length → (L.getD i []).length ≤ maxLen)
    (fin : Sym.Runs Try.prog b0 (cutAt Try.f3 21) (st_sp_21 cx cy s w h l l_t p p_t L P ww hh O e F' 0) (Sym.Ends Try.prog Try.f3 2 (.c (.bool true)) [])) :
    ∀ (r i : Nat) (f : Int), i + r = L.length → F' = (if f = 0 then F.polsE (L.drop i) else f) → Sym.Runs Try.prog b0 (cutAt Try.f3 9) (st_sp_9 cx cy s w h l l_t p p_t L P ww hh O e f (i : Int)) (Sym.Ends Try.prog Try.f3 2 (.c (.bool true)) []) := by
  intro r
  induction r with
  | zero =>
    intro i f hi hf
    rw [List.drop_eq_nil_of_le (by omega), F.polsE] at hf
    have ef : f = F' := by
      split at hf
      · rename_i c; rw [hf, c]
      · exact hf.symm
    rw [ef]
    refine Runs.go (cfg := C_pictB) L_pictB_ok mixed cuts_sp 400 hb (sp_t9 cx cy s w h l l_t p p_t L P ww hh O e F' (i : Int)) ?_
    simp only [T.wp, T.wp_cond, Aft, Int.ofNat_eq_natCast, decide_eq_true_eq]
    exact ite_no (by omega) fin
  | succ r ih =>
    intro i f hi hf
    have hiL : i < L.length := by omega
    have hq9 := hLb i hiL
    rw [dropc L [] i hiL, F.polsE] at hf
    refine Runs.go (cfg := C_pictB) L_pictB_ok mixed cuts_sp 400 hb (sp_t9 cx cy s w h l l_t p p_t L P ww hh O e f (i : Int)) ?_
    simp only [T.wp, T.wp_cond, Aft, Int.ofNat_eq_natCast, decide_eq_true_eq]
    refine ite_yes (by omega) (Runs.open 3 i rfl hiL rfl ?_)
    refine Runs.weaken (st' := st_sp_r10b cx cy s w h l l_t p p_t L P ww hh O e f (i : Int) i (L.getD i [])) (fun a w hR => hR) ?_
    generalize L.getD i [] = q at *
    have nx : ∀ f2 : Int, F' = (if f2 = 0 then F.polsE (L.drop (i + 1)) else f2) → ∀ f3 : Int, f2 = (if f3 = 0 then F.ptsE q else f3) → Sym.Runs Try.prog b0 (cutAt Try.f3 14) (st_sp_14 cx cy s w h l l_t p p_t L P ww hh O e f3 (i : Int) i q 0) (Sym.Ends Try.prog Try.f3 2 (.c (.bool true)) []) := fun f2 h2 f3 h3 => by
      have := ih (i + 1) f2 (by omega) h2
      rw [Int.natCast_succ] at this
      exact sp_l14 cx cy s w h l l_t p p_t L P ww hh b0 hb O e f2 i (by omega) q hq9 this q.length 0 f3 (Nat.zero_add _) h3
    refine Runs.go (cfg := C_pictB) L_pictB_ok mixed cuts_sp_r10b 400 hb (sp_tr10b cx cy s w h l l_t p p_t L P ww hh O e f (i : Int) i q) ?_
    simp only [T.wp, T.wp_cond, Aft, Int.ofNat_eq_natCast, decide_eq_true_eq, true_and, Nat.zero_add, Int.toNat_natCast]
    refine ⟨⟨by omega, by omega⟩, hiL, ?_⟩
    unfold F.polE at hf
    by_cases c : f = 0
    · rw [if_pos c] at hf
      refine ite_yes c ?_
      by_cases c16 : 16 < q.length
      · rw [if_pos c16, if_neg (by decide)] at hf
        exact ite_yes (by omega) (nx 2 (by rw [if_neg (by decide)]; exact hf) 2 (by rw [if_neg (by decide)]))
      · rw [if_neg c16] at hf
        refine ite_no (by omega) (nx (F.ptsE q) ?_ f (by rw [if_pos c]))
        exact hf
    · rw [if_neg c] at hf
      exact ite_no c (nx f (by rw [if_neg c]; exact hf) f (by rw [if_neg c]))
theorem sp_run (cx cy s w h : Int) (l : List (List (Int × Int))) (l_t : Bool) (p : List (Int × Int)) (p_t : Bool) (b0 : Base) (hb : b0.n = 2)  : Sym.Runs Try.prog b0 [.code (codeOf Try.f3)] ⟨argsS Try.f3 [.agg [.int .i64 cx, .int .i64 cy, .int .i64 s, .int .i64 w, .int .i64 h], .c (.slc 0 0 (List.length l) l_t), .c (.slc 1 0 (List.length p) p_t)], ([.nin 1 l none, .inp 1 p] : Heap cod)⟩ (Sym.Ends Try.prog Try.f3 2 (.c (.bool true)) []) := by
  have main : ∀ (L : List (List (Int × Int))) (P : List (Int × Int)) (ww hh : Int), L.length ≤ 3 → P.length ≤ 5 → 1 ≤ ww ∧ ww ≤ 20 → 1 ≤ hh ∧ hh ≤ 20 → (∀ i, i < L.length → (L.getD i []).length ≤ maxLen) → Sym.Runs Try.prog b0 (regAt Try.f3 6) (st_sp_r6 cx cy s w h l l_t p p_t L P ww hh) (Sym.Ends Try.prog Try.f3 2 (.c (.bool true)) []) := by
    intro L P ww hh h3 h5 hw hh1 hLb
    refine Runs.go (cfg := C_pictB) L_pictB_ok mixed cuts_sp_r6 400 hb (sp_tr6 cx cy s w h l l_t p p_t L P ww hh) ?_
    have hout : ∀ O : List (List UInt8), O = F.out cx cy s ww hh L P → Sym.Runs Try.prog b0 (cutAt Try.f3 21) (st_sp_21 cx cy s w h l l_t p p_t L P ww hh O (F.picE cx cy s ww hh L P) (F.picE cx cy s ww hh L P) (P.length : Int)) (Sym.Ends Try.prog Try.f3 2 (.c (.bool true)) []) := by
      intro O hO
      by_cases hE : F.picE cx cy s ww hh L P = 0
      · have hv : F.vok cx cy s ww hh = true := by
          unfold F.picE F.vE at hE
          cases c : F.vok cx cy s ww hh with
          | true => rfl
          | false => rw [c] at hE; simp at hE
        have hv0 : F.vE cx cy s ww hh = 0 := by unfold F.vE; rw [if_pos hv]
        have hl : F.polsE L = 0 := by
          unfold F.picE at hE
          rw [if_pos hv0] at hE
          by_cases c : F.polsE L = 0
          · exact c
          · rw [if_neg c] at hE
            exact hE
        have hp : F.ptsE P = 0 := by
          unfold F.picE at hE
          rw [if_pos hv0, if_pos hl] at hE
          exact hE
        have h31 := sp_l31 cx cy s w h l l_t p p_t L P ww hh b0 hb hv hl hp (by omega) (by omega) ⟨hw.1, by omega⟩ ⟨hh1.1, by omega⟩ hh.toNat 0 (Nat.zero_add _)
        have hO2 : O = F.oG (F.pic (cx, cy, s, ww, hh) L P) hh.toNat hh.toNat := by rw [hO]; unfold F.out; rw [if_pos hE]
        rw [← hO2] at h31
        have hOl : O.length = hh.toNat := by rw [hO2]; exact F.oG_len _ _ _
        rw [hE]
        refine Runs.go (cfg := C_pictB) L_pictB_ok mixed cuts_sp 400 hb (sp_t21 cx cy s w h l l_t p p_t L P ww hh O 0 0 (P.length : Int)) ?_
        simp only [T.wp, T.wp_cond, Aft, Int.ofNat_eq_natCast, decide_eq_true_eq, and_true, Nat.zero_add, Bool.not_eq_true', decide_eq_false_iff_not]
        exact ite_no (by omega) (ite_no (fun g => g trivial) (ite_no (fun g => g trivial) (ite_no (fun g => g (by omega)) h31)))
      · have hO2 : O = [] := by rw [hO]; unfold F.out; rw [if_neg hE]
        subst hO2
        refine Runs.go (cfg := C_pictB) L_pictB_ok mixed cuts_sp 400 hb (sp_t21 cx cy s w h l l_t p p_t L P ww hh [] (F.picE cx cy s ww hh L P) (F.picE cx cy s ww hh L P) (P.length : Int)) ?_
        simp only [T.wp, T.wp_cond, Aft, Int.ofNat_eq_natCast, decide_eq_true_eq, and_true, Nat.zero_add, Bool.not_eq_true', decide_eq_false_iff_not]
        exact ite_no (by omega) (ite_yes hE (ite_yes trivial rfl))
    have h21 := fun f (hf : F.picE cx cy s ww hh L P = (if f = 0 then F.ptsE (P.drop 0) else f)) => sp_l21 cx cy s w h l l_t p p_t L P ww hh b0 hb (by omega) (F.out cx cy s ww hh L P) (F.picE cx cy s ww hh L P) (hout _ rfl) P.length 0 f (Nat.zero_add _) hf
    have h9 := sp_l9 cx cy s w h l l_t p p_t L P ww hh b0 hb (by omega) (F.out cx cy s ww hh L P) (F.picE cx cy s ww hh L P) (if F.vE cx cy s ww hh = 0 then F.polsE L else F.vE cx cy s ww hh) hLb (h21 _ (by
      unfold F.picE
      rw [List.drop_zero]
      by_cases c : F.vE cx cy s ww hh = 0
      · rw [if_pos c, if_pos c]
      · rw [if_neg c, if_neg c, if_neg c])) L.length 0 (F.vE cx cy s ww hh) (Nat.zero_add _) (by rw [List.drop_zero])
    generalize F.out cx cy s ww hh L P = O at *
    generalize F.picE cx cy s ww hh L P = e0 at *
    generalize F.vE cx cy s ww hh = f0 at *
    simp only [T.wp, Aft, Int.ofNat_eq_natCast, and_true, true_and]
    exact ⟨⟨by omega, by omega⟩, h9⟩
  refine Runs.rows 0 (t := 1) (LL := l) (op := none) rfl fun hrows => ?_
  refine Runs.go (cfg := C_pictB) L_pictB_ok mixed cuts_sp 400 hb (sp_t0 cx cy s w h l l_t p p_t) ?_
  have en : Int.toNat (min (Int.ofNat (List.length l)) 3) = min l.length 3 := by rw [Int.ofNat_eq_natCast]; omega
  have ep : Int.toNat (min (Int.ofNat (List.length p)) 5) = min p.length 5 := by rw [Int.ofNat_eq_natCast]; omega
  have eL : (l.take (min l.length 3)).length = min l.length 3 := by rw [List.length_take]; omega
  have eP : (p.take (min p.length 5)).length = min p.length 5 := by rw [List.length_take]; omega
  have hm := main (l.take (min l.length 3)) (p.take (min p.length 5)) (1 + w % 20) (1 + h % 20) (by omega) (by omega) ⟨by omega, by omega⟩ ⟨by omega, by omega⟩ (fun i hi => by
    rw [eL] at hi
    rw [List.getD_eq_getElem?_getD, List.getElem?_take_of_lt hi, ← List.getD_eq_getElem?_getD]
    exact hrows i (Nat.lt_of_lt_of_le hi (Nat.min_le_left ..)))
  have hA : (0 : Int) ≤ min (Int.ofNat (List.length l)) 3 ∧ min (Int.ofNat (List.length l)) 3 ≤ Int.ofNat (List.length l) := by simp only [Int.ofNat_eq_natCast]; omega
  have hB : (0 : Int) ≤ min (Int.ofNat (List.length p)) 5 ∧ min (Int.ofNat (List.length p)) 5 ≤ Int.ofNat (List.length p) := by simp only [Int.ofNat_eq_natCast]; omega
  unfold st_sp_r6 at hm
  rw [eL, eP] at hm
  rw [en, ep]
  refine ⟨⟨rfl, rfl, by decide⟩, ⟨by decide, by decide⟩, by decide, ⟨rfl, rfl⟩, ⟨rfl, rfl⟩, hA, hB, ?_⟩
  refine Runs.trimN 1 0 (min l.length 3) 1 (LL := l) (tt := false) rfl rfl (Nat.min_le_left ..) rfl ?_
  exact Runs.trim 1 (min p.length 5) rfl hm



noncomputable def s_sp : Summ cod := fun args H => match args, H with
  | [.agg [.int .i64 cx, .int .i64 cy, .int .i64 s, .int .i64 w, .int .i64 h], .c (.slc 0 l_i l_n l_t), .c (.slc 1 p_i p_n p_t)], [o0, o1] => (match o0.asNin 1 with | some l => (match o1.asInp 1 with | some p => .need ((l_i = 0 ∧ l_n = List.length l) ∧ (p_i = 0 ∧ p_n = List.length p)) (.ret (.c (.bool true), [])) | none => .fail) | none => .fail)
  | _, _ => .fail


theorem sp_sound : Sound Try.prog cod 3 s_sp := sound_runs (cfg := C_pictB) L_pictB_ok mixed Try.func3 rfl rfl _ fun args H r news hg b0 hb => by
  unfold s_sp at hg
  split at hg
  · skip
    split at hg
    · rename_i l hx0
      cases asNin_spec hx0
      split at hg
      · rename_i p hx1
        cases asInp_spec hx1
        simp only [T.gives, T.wp, Prod.mk.injEq] at hg
        obtain ⟨⟨⟨rfl, rfl⟩, ⟨rfl, rfl⟩⟩, rfl, rfl⟩ := hg
        exact sp_run _ _ _ _ _ _ _ _ _ b0 hb 
      · exact hg.elim
    · exact hg.elim
  · exact hg.elim

noncomputable def L_sp : Sums cod := (3, .p s_sp) :: L_pictB
noncomputable def C_sp : Cfg cod := mkC L_sp

theorem L_sp_ok : Snd Try.prog cod L_sp := .cons sp_sound L_pictB_ok


end
end Go.Proofs.Ytbdhppceihcbnaa
