/- strings.Trim and strconv.Itoa, out of the library's contracts. -/
import Derived.Test.YtoflfgcdagoobaaDoorXa
import Derived.Test.YtoflfgcdagoobaaDoorSym26
import Derived.Test.YtoflfgcdagoobaaDoorSym33
import Derived.Test.YtoflfgcdagoobaaDoorShP
import Derived.Shelf.Strings.SlTrimAscii
import Derived.Shelf.Strconv.Itoa3
namespace Go.Proofs.YtoflfgcdagoobaaDoor
open Sym Go.RowKit Go.Sort
set_option maxRecDepth 100000
noncomputable section
def F.alph : List UInt8 := [97, 98, 99, 100, 101, 102, 103, 104, 105, 106, 107, 108, 109, 110, 111, 112, 113, 114, 115, 116, 117, 118, 119, 120, 121, 122]
def F.trm (s : List UInt8) : List UInt8 := Lib.trimS s F.alph
theorem blw_alloc {w : World} (o : Obj) : Blw w (w.alloc o) := ⟨Below.alloc (Below.refl _ _) (Nat.le_refl _) _, Nat.le_refl _⟩
theorem blw_trans {a b c : World} (h : Blw a b) (k : Blw b c) : Blw a c :=
  ⟨⟨k.below.os.trans h.below.os, k.below.tape.trans h.below.tape, k.below.output.trans h.below.output, Nat.le_trans h.below.size k.below.size, fun i hi => (k.below.block i (Nat.lt_of_lt_of_le hi h.below.size)).trans (h.below.block i hi)⟩, Nat.le_trans h.drawn k.drawn⟩
theorem blw_drewN {w : World} (n : Nat) : Blw w (w.drewN n) := ⟨⟨rfl, rfl, rfl, Nat.le_refl _, fun _ _ => rfl⟩, Nat.le_add_right _ _⟩
theorem blw_refl (w : World) : Blw w w := ⟨Below.refl _ _, Nat.le_refl _⟩
def s_trim : Summ cod := fun args _ => match args with
  | [.c (.str s), .c (.str c)] => .need (c = F.alph ∧ s.length ≤ 9223372036854775807) (.ret (.c (.str (F.trm s)), []))
  | _ => .fail
theorem trim_sound : Sound Tryd.prog cod 40 s_trim := by
  refine Sound.scal (fun args w => enters_fn Tryd.func40 rfl rfl args w) fun args H r news w ht hg => ?_
  unfold s_trim at hg
  split at hg
  · rename_i s c
    obtain ⟨⟨rfl, hs⟩, hg⟩ := hg
    cases hg
    refine ⟨rfl, rfl, .string ⟨(F.trm s).toArray⟩, fun _ _ => rfl, ?_⟩
    have hsz : (⟨s.toArray⟩ : ByteArray).size = s.length := by simp [ByteArray.size]
    by_cases h0 : s.length = 0
    · have e : s = [] := List.eq_nil_of_length_eq_zero h0
      subst e
      refine (Any.strings_Trim_empty YtoflfgcdagoobaaDoor.laysTrim ⟨#[]⟩ ⟨F.alph.toArray⟩ w (.inl rfl)).mono ?_
      rintro e w' ⟨rfl, rfl⟩
      exact ⟨rfl, blw_refl _⟩
    · refine (Any.strings_Trim_set YtoflfgcdagoobaaDoor.laysTrim (zero_of_info (P := Tryd.prog) (t := 77) (v := .agg (Array.replicate 256 (.bool false))) (n := 256) (by kernel_rfl)).1 (zero_of_info (P := Tryd.prog) (t := 77) (v := .agg (Array.replicate 256 (.bool false))) (n := 256) (by kernel_rfl)).2 ⟨s.toArray⟩ ⟨F.alph.toArray⟩ w (by decide) (by omega) (by omega) (by decide) (ascii_of_all (by decide))).mono ?_
      rintro e w' ⟨rfl, q, rfl⟩
      exact ⟨rfl, blw_trans (blw_trans (blw_alloc _) (blw_alloc _)) (blw_drewN q)⟩
  · exact hg.elim
theorem tab10 {w : World} {M : Nat → Prop} (h : TabW w M) : Lib.TabIs Tryd.prog w "internal/strconv.uint64pow10" .u64 Lib.pow10Tab := by
  obtain ⟨⟨ty, tg, h1⟩, _⟩ := h (1, (Lib.pow10Tab.map fun z => Value.int .u64 z).toArray) (by simp [tabs])
  have hg : Tryd.prog.globalNamed "internal/strconv.uint64pow10" = some 1 := by kernel_rfl
  unfold Lib.TabIs World.var?
  rw [hg]
  simp only [Option.bind_some, h1]
def F.dig (n : Int) : List UInt8 := [UInt8.ofNat (48 + n.toNat)]
def F.itl : Nat → Int → List UInt8 → List UInt8
  | 0, _, acc => acc
  | f + 1, n, acc => if 0 < n ∨ acc = [] then F.itl f (n / 10) (F.dig (n % 10) ++ acc) else acc
def F.itoa (n : Int) : List UInt8 := F.itl 30 n []
def F.itoaZ (n : Int) : List UInt8 := if n < 0 then 45 :: F.itoa (-n) else F.itoa n
theorem itl_dec : ∀ (f : Nat) (n : Nat) (acc : List UInt8), n < 10 ^ f → 0 < f → acc = [] ∨ 0 < n → F.itl f (n : Int) acc = Lib.decDigits n ++ acc
  | 0, n, acc, _, h, _ => absurd h (by decide)
  | f + 1, n, acc, hn, _, ha => by
    have c : 0 < (n : Int) ∨ acc = [] := by
      rcases ha with h | h
      · exact .inr h
      · exact .inl (by omega)
    have e1 : (n : Int) / 10 = ((n / 10 : Nat) : Int) := by omega
    have e2 : F.dig ((n : Int) % 10) = [UInt8.ofNat (48 + n % 10)] := by
      unfold F.dig
      congr 2
    rw [F.itl, if_pos c, e1, e2, Lib.decDigits]
    by_cases h : n < 10
    · rw [dif_pos h]
      have e0 : n / 10 = 0 := by omega
      have e3 : n % 10 = n := by omega
      rw [e0, e3]
      cases f with
      | zero => rfl
      | succ f => rw [F.itl, if_neg (by simp)]
    · rw [dif_neg h]
      have hf : 0 < f := by
        cases f with
        | zero => simp at hn; omega
        | succ f => omega
      have hp : 10 ^ (f + 1) = 10 * 10 ^ f := by rw [Nat.pow_succ, Nat.mul_comm]
      rw [itl_dec f (n / 10) _ (by omega) hf (.inr (by omega)), List.append_assoc]
theorem itoa_dec (n : Int) (h0 : -9223372036854775808 ≤ n) (h1 : n ≤ 9223372036854775807) : Lib.itoa n = F.itoaZ n := by
  have hp : 10 ^ 30 = 1000000000000000000000000000000 := by decide
  unfold Lib.itoa F.itoaZ F.itoa
  split
  · have e : -n = ((n.natAbs : Nat) : Int) := by omega
    rw [e, itl_dec 30 _ [] (by omega) (by decide) (.inl rfl), List.append_nil]
  · have e : n = ((n.toNat : Nat) : Int) := by omega
    rw [e, itl_dec 30 _ [] (by omega) (by decide) (.inl rfl), List.append_nil, Int.toNat_natCast]
def s_itoa : Summ cod := fun args _ => match args with
  | [.c (.int .i64 n)] => .need (i64ok n) (.ret (.c (.str (F.itoaZ n)), []))
  | _ => .fail
theorem itoa_sound : Sound Tryd.prog cod 37 s_itoa := by
  refine Sound.scal (fun args w => enters_fn Tryd.func37 rfl rfl args w) fun args H r news w ht hg => ?_
  unfold s_itoa at hg
  split at hg
  · rename_i n
    obtain ⟨hn, hg⟩ := hg
    cases hg
    rw [← itoa_dec n hn.1 hn.2]
    refine ⟨rfl, rfl, .string ⟨(Lib.itoa n).toArray⟩, fun _ _ => rfl, ?_⟩
    refine (Any.strconv_Itoa YtoflfgcdagoobaaDoor.laysItoa n hn.1 hn.2 w (tab10 ht)).mono ?_
    rintro e w' ⟨rfl, k, os, rfl⟩
    exact ⟨rfl, kin_grow⟩
  · exact hg.elim
end
end Go.Proofs.YtoflfgcdagoobaaDoor
