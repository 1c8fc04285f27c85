/- Parts of the proof, one behind the other: Sym33, ShP, Xs. -/
import Derived.Test.YtiolfkmkbccndaaGreatDoorBd22
import Derived.Sort.Grow
import Derived.Deep.Draws
import Derived.Ground.NamesProg
import Derived.Shelf.Lays
import Derived.Shelf.LaysM
import Derived.Shelf.LaysC
import Derived.Test.YtiolfkmkbccndaaGreatDoorChecked
import Derived.Test.YtiolfkmkbccndaaGreatDoorBd23
import Derived.Shelf.Strings.SlTrimAscii
import Derived.Shelf.Strconv.Itoa3
section
/- A function that gives scalars and makes nothing that counts, out of a contract of its own. -/
namespace Go.Proofs.YtiolfkmkbccndaaGreatDoor.Sym
open Go.RowKit Go.Sort
theorem ite_yes {c : Prop} [Decidable c] {a b : Prop} (h : c) (ha : a) : if c then a else b := by rw [if_pos h]; exact ha
theorem ite_no {c : Prop} [Decidable c] {a b : Prop} (h : ¬ c) (hb : b) : if c then a else b := by rw [if_neg h]; exact hb

section
variable {cod : Nat → Codec} {P : Program}
theorem kin_grow {w : World} {k : Nat} {os : Array Obj} : Blw w (grow (w.drewN k) os) := by
  refine ⟨⟨rfl, rfl, rfl, by simp, fun i hi => ?_⟩, dl_mono (Nat.le_add_right _ _)⟩
  exact heap_grow_old _ _ (by simpa using hi)
/-- The values of scalars. -/
def scalVals (vs : List SV) : List Value := vs.map fun
  | .c x => x.val
  | _ => .tuple #[]
def SV.scal : SV → Bool
  | .c x => x.scalar
  | _ => false
theorem scal_args {env : Env} {N : Nat} : ∀ {aas : List SV} {vs : List Value}, aas.all SV.scal = true → F2 (vrel env N) aas vs → vs = scalVals aas
  | [], _, _, h => by cases h; rfl
  | a :: aas, _, hs, h => by
    cases h with
    | @cons _ v _ vs hx hxs =>
      simp only [List.all_cons, Bool.and_eq_true] at hs
      rw [scal_args hs.2 hxs]
      cases a with
      | c x =>
        rw [scalar_val hs.1 hx]
        rfl
      | agg cs => simp [SV.scal] at hs
      | tup l => simp [SV.scal] at hs
theorem Sound.scal {g : FuncId} {s : Summ cod} (en : ∀ args w, (callFunc g args).run P w = .ok (.enter g args) w)
    (h : ∀ (args : List SV) (H : Heap cod) (r : SV) (news : Heap cod) (w : World), TabW w (newIn w) → (s args H).gives (r, news) → args.all SV.scal = true ∧ news = [] ∧ ∃ v, (∀ env N, vrel env N r v) ∧ Calls P g (scalVals args).toArray w fun e w' => e = .returned v ∧ Blw w w') : Sound P cod g s := by
  refine ⟨en, fun args H env w vs r news hro G ha hg => ?_⟩
  obtain ⟨h1, rfl, v, h2, h3⟩ := h args H r news w G.tab hg
  rw [scal_args h1 ha]
  refine h3.mono ?_
  rintro e w' ⟨rfl, hb⟩
  exact ⟨v, env, rfl, EnvEq.refl _ _, h2 _ _, by simpa using G.below hb.below (Nat.le_refl _), hb⟩
end
end Go.Proofs.YtiolfkmkbccndaaGreatDoor.Sym
end
section
/- The contracts of the library that this proof leans on, laid at this program. -/
namespace Go.Proofs
open Go.Shelf
def YtiolfkmkbccndaaGreatDoor.laysTrim_ren : Go.Shelf.Ren := ⟨fun | 160 => 37 | 232 => 48 | 231 => 47 | 227 => 49 | 234 => 51 | 233 => 50 | 236 => 53 | 235 => 52 | 228 => 61 | 271 => 64 | 151 => 63 | 197 => 62 | 120 => 80 | 152 => 79 | 260 => 78 | 137 => 95 | 119 => 96 | 224 => 71 | 225 => 70 | 217 => 69 | 266 => 86 | n => n, fun | 9 => 9 | 4 => 4 | 3 => 3 | 5 => 5 | 117 => 86 | 116 => 85 | 0 => 0 | 124 => 89 | 21 => 21 | 105 => 100 | 46 => 111 | 119 => 129 | 139 => 132 | 138 => 131 | n => n, fun | 3 => 2 | 4 => 3 | n => n⟩
theorem YtiolfkmkbccndaaGreatDoor.laysTrim : Go.Proofs.Lays.n160 Tryz.prog YtiolfkmkbccndaaGreatDoor.laysTrim_ren := {
  mixed := by kernel_rfl
  f119 := Tryz.func96.trans (congrArg some (by kernel_rfl))
  f120 := Tryz.func80.trans (congrArg some (by kernel_rfl))
  f137 := Tryz.func95.trans (congrArg some (by kernel_rfl))
  f151 := Tryz.func63.trans (congrArg some (by kernel_rfl))
  f152 := Tryz.func79.trans (congrArg some (by kernel_rfl))
  f160 := Tryz.func37.trans (congrArg some (by kernel_rfl))
  f197 := Tryz.func62.trans (congrArg some (by kernel_rfl))
  f217 := Tryz.func69.trans (congrArg some (by kernel_rfl))
  f224 := Tryz.func71.trans (congrArg some (by kernel_rfl))
  f225 := Tryz.func70.trans (congrArg some (by kernel_rfl))
  f227 := Tryz.func49.trans (congrArg some (by kernel_rfl))
  f228 := Tryz.func61.trans (congrArg some (by kernel_rfl))
  f231 := Tryz.func47.trans (congrArg some (by kernel_rfl))
  f232 := Tryz.func48.trans (congrArg some (by kernel_rfl))
  f233 := Tryz.func50.trans (congrArg some (by kernel_rfl))
  f234 := Tryz.func51.trans (congrArg some (by kernel_rfl))
  f235 := Tryz.func52.trans (congrArg some (by kernel_rfl))
  f236 := Tryz.func53.trans (congrArg some (by kernel_rfl))
  f260 := Tryz.func78.trans (congrArg some (by kernel_rfl))
  f266 := Tryz.func86.trans (congrArg some (by kernel_rfl))
  f271 := Tryz.func64.trans (congrArg some (by kernel_rfl))
  t0 := Tryz.underlying0
  a0 := Tryz.isAgg0
  z0 := Tryz.sizeOf0
  v0 := Tryz.zeroValue0
  t3 := Tryz.underlying3
  a3 := Tryz.isAgg3
  z3 := Tryz.sizeOf3
  v3 := Tryz.zeroValue3
  t4 := Tryz.underlying4
  a4 := Tryz.isAgg4
  z4 := Tryz.sizeOf4
  v4 := Tryz.zeroValue4
  t5 := Tryz.underlying5
  a5 := Tryz.isAgg5
  z5 := Tryz.sizeOf5
  v5 := Tryz.zeroValue5
  t9 := Tryz.underlying9
  a9 := Tryz.isAgg9
  z9 := Tryz.sizeOf9
  v9 := Tryz.zeroValue9
  t21 := Tryz.underlying21
  a21 := Tryz.isAgg21
  z21 := Tryz.sizeOf21
  v21 := Tryz.zeroValue21
  t46 := Tryz.underlying111
  a46 := Tryz.isAgg111
  z46 := Tryz.sizeOf111
  v46 := Tryz.zeroValue111
  t105 := Tryz.underlying100
  a105 := Tryz.isAgg100
  z105 := Tryz.sizeOf100
  v105 := Tryz.zeroValue100
  t116 := Tryz.underlying85
  a116 := Tryz.isAgg85
  z116 := Tryz.sizeOf85
  t117 := Tryz.underlying86
  a117 := Tryz.isAgg86
  z117 := Tryz.sizeOf86
  v117 := Tryz.zeroValue86
  t119 := Tryz.underlying129
  a119 := Tryz.isAgg129
  z119 := Tryz.sizeOf129
  t124 := Tryz.underlying89
  a124 := Tryz.isAgg89
  z124 := Tryz.sizeOf89
  v124 := Tryz.zeroValue89
  t138 := Tryz.underlying131
  a138 := Tryz.isAgg131
  z138 := Tryz.sizeOf131
  v138 := Tryz.zeroValue131
  t139 := Tryz.underlying132
  a139 := Tryz.isAgg132
  z139 := Tryz.sizeOf132
  v139 := Tryz.zeroValue132
  g3 := by kernel_rfl
  g4 := by kernel_rfl }
def YtiolfkmkbccndaaGreatDoor.laysItoa_ren : Go.Shelf.Ren := ⟨fun | 171 => 28 | 243 => 39 | 246 => 54 | 283 => 65 | 284 => 66 | 285 => 67 | 286 => 68 | 129 => 82 | 317 => 81 | 318 => 83 | 319 => 84 | 320 => 85 | 337 => 97 | 338 => 98 | n => n, fun | 3 => 3 | 9 => 9 | 2 => 2 | 4 => 4 | 171 => 103 | 0 => 0 | 53 => 104 | 37 => 82 | 5 => 5 | 173 => 107 | 212 => 116 | 51 => 117 | 20 => 20 | 213 => 118 | 46 => 111 | 232 => 142 | 233 => 143 | n => n, fun | 17 => 1 | 18 => 6 | 19 => 7 | n => n⟩
theorem YtiolfkmkbccndaaGreatDoor.laysItoa : Go.Proofs.LaysM.n171 Tryz.prog YtiolfkmkbccndaaGreatDoor.laysItoa_ren := {
  mixed := by kernel_rfl
  f129 := Tryz.func82.trans (congrArg some (by kernel_rfl))
  f171 := Tryz.func28.trans (congrArg some (by kernel_rfl))
  f243 := Tryz.func39.trans (congrArg some (by kernel_rfl))
  f246 := Tryz.func54.trans (congrArg some (by kernel_rfl))
  f283 := Tryz.func65.trans (congrArg some (by kernel_rfl))
  f284 := Tryz.func66.trans (congrArg some (by kernel_rfl))
  f285 := Tryz.func67.trans (congrArg some (by kernel_rfl))
  f286 := Tryz.func68.trans (congrArg some (by kernel_rfl))
  f317 := Tryz.func81.trans (congrArg some (by kernel_rfl))
  f318 := Tryz.func83.trans (congrArg some (by kernel_rfl))
  f319 := Tryz.func84.trans (congrArg some (by kernel_rfl))
  f320 := Tryz.func85.trans (congrArg some (by kernel_rfl))
  f337 := Tryz.func97.trans (congrArg some (by kernel_rfl))
  f338 := Tryz.func98.trans (congrArg some (by kernel_rfl))
  t0 := Tryz.underlying0
  a0 := Tryz.isAgg0
  z0 := Tryz.sizeOf0
  v0 := Tryz.zeroValue0
  t2 := Tryz.underlying2
  a2 := Tryz.isAgg2
  z2 := Tryz.sizeOf2
  v2 := Tryz.zeroValue2
  t3 := Tryz.underlying3
  a3 := Tryz.isAgg3
  z3 := Tryz.sizeOf3
  v3 := Tryz.zeroValue3
  t4 := Tryz.underlying4
  a4 := Tryz.isAgg4
  z4 := Tryz.sizeOf4
  v4 := Tryz.zeroValue4
  t5 := Tryz.underlying5
  a5 := Tryz.isAgg5
  z5 := Tryz.sizeOf5
  v5 := Tryz.zeroValue5
  t9 := Tryz.underlying9
  a9 := Tryz.isAgg9
  z9 := Tryz.sizeOf9
  v9 := Tryz.zeroValue9
  t20 := Tryz.underlying20
  a20 := Tryz.isAgg20
  z20 := Tryz.sizeOf20
  v20 := Tryz.zeroValue20
  t37 := Tryz.underlying82
  a37 := Tryz.isAgg82
  z37 := Tryz.sizeOf82
  v37 := Tryz.zeroValue82
  t46 := Tryz.underlying111
  a46 := Tryz.isAgg111
  z46 := Tryz.sizeOf111
  v46 := Tryz.zeroValue111
  t51 := Tryz.underlying117
  a51 := Tryz.isAgg117
  z51 := Tryz.sizeOf117
  v51 := Tryz.zeroValue117
  t53 := Tryz.underlying104
  a53 := Tryz.isAgg104
  z53 := Tryz.sizeOf104
  v53 := Tryz.zeroValue104
  t171 := Tryz.underlying103
  a171 := Tryz.isAgg103
  z171 := Tryz.sizeOf103
  v171 := Tryz.zeroValue103
  t173 := Tryz.underlying107
  a173 := Tryz.isAgg107
  z173 := Tryz.sizeOf107
  v173 := Tryz.zeroValue107
  t212 := Tryz.underlying116
  a212 := Tryz.isAgg116
  z212 := Tryz.sizeOf116
  v212 := Tryz.zeroValue116
  t213 := Tryz.underlying118
  a213 := Tryz.isAgg118
  z213 := Tryz.sizeOf118
  t232 := Tryz.underlying142
  a232 := Tryz.isAgg142
  z232 := Tryz.sizeOf142
  v232 := Tryz.zeroValue142
  t233 := Tryz.underlying143
  a233 := Tryz.isAgg143
  z233 := Tryz.sizeOf143
  v233 := Tryz.zeroValue143
  g17 := by kernel_rfl
  g18 := by kernel_rfl
  g19 := by kernel_rfl
  i0 := by kernel_rfl
  i2 := by kernel_rfl
  i3 := by kernel_rfl
  i4 := by kernel_rfl
  i5 := by kernel_rfl
  i9 := by kernel_rfl
  i20 := by kernel_rfl
  i37 := by kernel_rfl
  i46 := by kernel_rfl
  i51 := by kernel_rfl
  i53 := by kernel_rfl
  i171 := by kernel_rfl
  i173 := by kernel_rfl
  i212 := by kernel_rfl
  i232 := by kernel_rfl
  i233 := by kernel_rfl
  m17 := by kernel_rfl
  m18 := by kernel_rfl
  m19 := by kernel_rfl }
def YtiolfkmkbccndaaGreatDoor.laysAtoi_ren : Go.Shelf.Ren := ⟨fun | 172 => 57 | 244 => 75 | 245 => 76 | 247 => 89 | 279 => 90 | 280 => 91 | 281 => 92 | 282 => 93 | 287 => 100 | 316 => 101 | 171 => 28 | 205 => 102 | 321 => 103 | 322 => 104 | 243 => 39 | 246 => 54 | 283 => 65 | 284 => 66 | 285 => 67 | 286 => 68 | 129 => 82 | 317 => 81 | 318 => 83 | 319 => 84 | 320 => 85 | 337 => 97 | 338 => 98 | n => n, fun | 9 => 9 | 3 => 3 | 75 => 94 | 76 => 95 | 4 => 4 | 5 => 5 | 167 => 123 | 37 => 82 | 0 => 0 | 85 => 124 | 2 => 2 | 168 => 126 | 53 => 104 | 175 => 136 | 46 => 111 | 210 => 140 | 127 => 145 | 145 => 148 | 143 => 146 | 21 => 21 | 171 => 103 | 173 => 107 | 212 => 116 | 51 => 117 | 20 => 20 | 213 => 118 | 232 => 142 | 233 => 143 | 80 => 149 | n => n, fun | 15 => 4 | 16 => 5 | 17 => 1 | 18 => 6 | 19 => 7 | n => n⟩
theorem YtiolfkmkbccndaaGreatDoor.laysAtoi : Go.Proofs.LaysC.n172 Tryz.prog YtiolfkmkbccndaaGreatDoor.laysAtoi_ren := {
  mixed := by kernel_rfl
  f129 := Tryz.func82.trans (congrArg some (by kernel_rfl))
  f171 := Tryz.func28.trans (congrArg some (by kernel_rfl))
  f172 := Tryz.func57.trans (congrArg some (by kernel_rfl))
  f205 := Tryz.func102.trans (congrArg some (by kernel_rfl))
  f243 := Tryz.func39.trans (congrArg some (by kernel_rfl))
  f244 := Tryz.func75.trans (congrArg some (by kernel_rfl))
  f245 := Tryz.func76.trans (congrArg some (by kernel_rfl))
  f246 := Tryz.func54.trans (congrArg some (by kernel_rfl))
  f247 := Tryz.func89.trans (congrArg some (by kernel_rfl))
  f279 := Tryz.func90.trans (congrArg some (by kernel_rfl))
  f280 := Tryz.func91.trans (congrArg some (by kernel_rfl))
  f281 := Tryz.func92.trans (congrArg some (by kernel_rfl))
  f282 := Tryz.func93.trans (congrArg some (by kernel_rfl))
  f283 := Tryz.func65.trans (congrArg some (by kernel_rfl))
  f284 := Tryz.func66.trans (congrArg some (by kernel_rfl))
  f285 := Tryz.func67.trans (congrArg some (by kernel_rfl))
  f286 := Tryz.func68.trans (congrArg some (by kernel_rfl))
  f287 := Tryz.func100.trans (congrArg some (by kernel_rfl))
  f316 := Tryz.func101.trans (congrArg some (by kernel_rfl))
  f317 := Tryz.func81.trans (congrArg some (by kernel_rfl))
  f318 := Tryz.func83.trans (congrArg some (by kernel_rfl))
  f319 := Tryz.func84.trans (congrArg some (by kernel_rfl))
  f320 := Tryz.func85.trans (congrArg some (by kernel_rfl))
  f321 := Tryz.func103.trans (congrArg some (by kernel_rfl))
  f322 := Tryz.func104.trans (congrArg some (by kernel_rfl))
  f337 := Tryz.func97.trans (congrArg some (by kernel_rfl))
  f338 := Tryz.func98.trans (congrArg some (by kernel_rfl))
  t0 := Tryz.underlying0
  a0 := Tryz.isAgg0
  z0 := Tryz.sizeOf0
  v0 := Tryz.zeroValue0
  t2 := Tryz.underlying2
  a2 := Tryz.isAgg2
  z2 := Tryz.sizeOf2
  v2 := Tryz.zeroValue2
  t3 := Tryz.underlying3
  a3 := Tryz.isAgg3
  z3 := Tryz.sizeOf3
  v3 := Tryz.zeroValue3
  t4 := Tryz.underlying4
  a4 := Tryz.isAgg4
  z4 := Tryz.sizeOf4
  v4 := Tryz.zeroValue4
  t5 := Tryz.underlying5
  a5 := Tryz.isAgg5
  z5 := Tryz.sizeOf5
  v5 := Tryz.zeroValue5
  t9 := Tryz.underlying9
  a9 := Tryz.isAgg9
  z9 := Tryz.sizeOf9
  v9 := Tryz.zeroValue9
  t20 := Tryz.underlying20
  a20 := Tryz.isAgg20
  z20 := Tryz.sizeOf20
  v20 := Tryz.zeroValue20
  t21 := Tryz.underlying21
  a21 := Tryz.isAgg21
  z21 := Tryz.sizeOf21
  v21 := Tryz.zeroValue21
  t37 := Tryz.underlying82
  a37 := Tryz.isAgg82
  z37 := Tryz.sizeOf82
  v37 := Tryz.zeroValue82
  t46 := Tryz.underlying111
  a46 := Tryz.isAgg111
  z46 := Tryz.sizeOf111
  v46 := Tryz.zeroValue111
  t51 := Tryz.underlying117
  a51 := Tryz.isAgg117
  z51 := Tryz.sizeOf117
  v51 := Tryz.zeroValue117
  t53 := Tryz.underlying104
  a53 := Tryz.isAgg104
  z53 := Tryz.sizeOf104
  v53 := Tryz.zeroValue104
  t75 := Tryz.underlying94
  a75 := Tryz.isAgg94
  z75 := Tryz.sizeOf94
  v75 := Tryz.zeroValue94
  t76 := Tryz.underlying95
  a76 := Tryz.isAgg95
  z76 := Tryz.sizeOf95
  v76 := Tryz.zeroValue95
  t85 := Tryz.underlying124
  a85 := Tryz.isAgg124
  z85 := Tryz.sizeOf124
  v85 := Tryz.zeroValue124
  t127 := Tryz.underlying145
  a127 := Tryz.isAgg145
  z127 := Tryz.sizeOf145
  v127 := Tryz.zeroValue145
  t143 := Tryz.underlying146
  a143 := Tryz.isAgg146
  z143 := Tryz.sizeOf146
  v143 := Tryz.zeroValue146
  t145 := Tryz.underlying148
  a145 := Tryz.isAgg148
  z145 := Tryz.sizeOf148
  v145 := Tryz.zeroValue148
  t167 := Tryz.underlying123
  a167 := Tryz.isAgg123
  z167 := Tryz.sizeOf123
  v167 := Tryz.zeroValue123
  t168 := Tryz.underlying126
  a168 := Tryz.isAgg126
  z168 := Tryz.sizeOf126
  v168 := Tryz.zeroValue126
  t171 := Tryz.underlying103
  a171 := Tryz.isAgg103
  z171 := Tryz.sizeOf103
  v171 := Tryz.zeroValue103
  t173 := Tryz.underlying107
  a173 := Tryz.isAgg107
  z173 := Tryz.sizeOf107
  v173 := Tryz.zeroValue107
  t175 := Tryz.underlying136
  a175 := Tryz.isAgg136
  z175 := Tryz.sizeOf136
  v175 := Tryz.zeroValue136
  t210 := Tryz.underlying140
  a210 := Tryz.isAgg140
  z210 := Tryz.sizeOf140
  v210 := Tryz.zeroValue140
  t212 := Tryz.underlying116
  a212 := Tryz.isAgg116
  z212 := Tryz.sizeOf116
  v212 := Tryz.zeroValue116
  t213 := Tryz.underlying118
  a213 := Tryz.isAgg118
  z213 := Tryz.sizeOf118
  t232 := Tryz.underlying142
  a232 := Tryz.isAgg142
  z232 := Tryz.sizeOf142
  v232 := Tryz.zeroValue142
  t233 := Tryz.underlying143
  a233 := Tryz.isAgg143
  z233 := Tryz.sizeOf143
  v233 := Tryz.zeroValue143
  g15 := by kernel_rfl
  g16 := by kernel_rfl
  g17 := by kernel_rfl
  g18 := by kernel_rfl
  g19 := by kernel_rfl
  t80 := Tryz.underlying149
  a80 := Tryz.isAgg149
  z80 := Tryz.sizeOf149
  v80 := Tryz.zeroValue149
  i0 := by kernel_rfl
  i2 := by kernel_rfl
  i3 := by kernel_rfl
  i4 := by kernel_rfl
  i5 := by kernel_rfl
  i9 := by kernel_rfl
  i20 := by kernel_rfl
  i21 := by kernel_rfl
  i37 := by kernel_rfl
  i46 := by kernel_rfl
  i51 := by kernel_rfl
  i53 := by kernel_rfl
  i75 := by kernel_rfl
  i76 := by kernel_rfl
  i80 := by kernel_rfl
  i85 := by kernel_rfl
  i127 := by kernel_rfl
  i143 := by kernel_rfl
  i145 := by kernel_rfl
  i167 := by kernel_rfl
  i168 := by kernel_rfl
  i171 := by kernel_rfl
  i173 := by kernel_rfl
  i175 := by kernel_rfl
  i210 := by kernel_rfl
  i212 := by kernel_rfl
  i232 := by kernel_rfl
  i233 := by kernel_rfl
  m15 := by kernel_rfl
  m16 := by kernel_rfl
  m17 := by kernel_rfl
  m18 := by kernel_rfl
  m19 := by kernel_rfl
  c0 := by kernel_rfl
  c2 := by kernel_rfl
  c3 := by kernel_rfl
  c4 := by kernel_rfl
  c5 := by kernel_rfl
  c9 := by kernel_rfl
  c20 := by kernel_rfl
  c21 := by kernel_rfl
  c37 := by kernel_rfl
  c46 := by kernel_rfl
  c51 := by kernel_rfl
  c53 := by kernel_rfl
  c75 := by kernel_rfl
  c76 := by kernel_rfl
  c80 := by kernel_rfl
  c85 := by kernel_rfl
  c127 := by kernel_rfl
  c143 := by kernel_rfl
  c145 := by kernel_rfl
  c167 := by kernel_rfl
  c168 := by kernel_rfl
  c171 := by kernel_rfl
  c173 := by kernel_rfl
  c175 := by kernel_rfl
  c210 := by kernel_rfl
  c212 := by kernel_rfl
  c213 := by kernel_rfl
  c232 := by kernel_rfl
  c233 := by kernel_rfl }
end Go.Proofs
end
section
/- strings.Trim and strconv.Itoa, out of the library's contracts. -/
namespace Go.Proofs.YtiolfkmkbccndaaGreatDoor
open Sym Go.RowKit Go.Sort
set_option maxRecDepth 100000
noncomputable section
def F.alph : List UInt8 := [97, 98, 99, 100, 101, 102, 103, 104, 105, 106, 107, 108, 109, 110, 111, 112, 113, 114, 115, 116, 117, 118, 119, 120, 121, 122]
def F.trm (s : List UInt8) : List UInt8 := Lib.trimS s F.alph
theorem blw_alloc {w : World} (o : Obj) : Blw w (w.alloc o) := ⟨Below.alloc (Below.refl _ _) (Nat.le_refl _) _, Nat.le_refl _⟩
theorem blw_trans {a b c : World} (h : Blw a b) (k : Blw b c) : Blw a c :=
  ⟨⟨k.below.os.trans h.below.os, k.below.tape.trans h.below.tape, k.below.output.trans h.below.output, Nat.le_trans h.below.size k.below.size, fun i hi => (k.below.block i (Nat.lt_of_lt_of_le hi h.below.size)).trans (h.below.block i hi)⟩, Nat.le_trans h.drawn k.drawn⟩
theorem blw_drewN {w : World} (n : Nat) : Blw w (w.drewN n) := ⟨⟨rfl, rfl, rfl, Nat.le_refl _, fun _ _ => rfl⟩, dl_mono (Nat.le_add_right _ _)⟩
theorem blw_refl (w : World) : Blw w w := ⟨Below.refl _ _, Nat.le_refl _⟩
def s_trim : Summ cod := fun args _ => match args with
  | [.c (.str s), .c (.str c)] => .need (c = F.alph ∧ s.length ≤ 9223372036854775807) (.ret (.c (.str (F.trm s)), []))
  | _ => .fail
theorem trim_sound : Sound Tryz.prog cod 37 s_trim := by
  refine Sound.scal (fun args w => enters_fn Tryz.func37 rfl rfl args w) fun args H r news w ht hg => ?_
  unfold s_trim at hg
  split at hg
  · rename_i s c
    obtain ⟨⟨rfl, hs⟩, hg⟩ := hg
    cases hg
    refine ⟨rfl, rfl, .string ⟨(F.trm s).toArray⟩, fun _ _ => rfl, ?_⟩
    have hsz : (⟨s.toArray⟩ : ByteArray).size = s.length := by simp [ByteArray.size]
    by_cases h0 : s.length = 0
    · have e : s = [] := List.eq_nil_of_length_eq_zero h0
      subst e
      refine (Any.strings_Trim_empty YtiolfkmkbccndaaGreatDoor.laysTrim ⟨#[]⟩ ⟨F.alph.toArray⟩ w (.inl rfl)).mono ?_
      rintro e w' ⟨rfl, rfl⟩
      exact ⟨rfl, blw_refl _⟩
    · refine (Any.strings_Trim_set YtiolfkmkbccndaaGreatDoor.laysTrim (zero_of_info (P := Tryz.prog) (t := 85) (v := .agg (Array.replicate 256 (.bool false))) (n := 256) (by kernel_rfl)).1 (zero_of_info (P := Tryz.prog) (t := 85) (v := .agg (Array.replicate 256 (.bool false))) (n := 256) (by kernel_rfl)).2 ⟨s.toArray⟩ ⟨F.alph.toArray⟩ w (by decide) (by omega) (by omega) (by decide) (ascii_of_all (by decide))).mono ?_
      rintro e w' ⟨rfl, q, rfl⟩
      exact ⟨rfl, blw_trans (blw_trans (blw_alloc _) (blw_alloc _)) (blw_drewN q)⟩
  · exact hg.elim
theorem tab10 {w : World} {M : Nat → Prop} (h : TabW w M) : Lib.TabIs Tryz.prog w "internal/strconv.uint64pow10" .u64 Lib.pow10Tab := by
  obtain ⟨⟨cs, ty, tg, h1, hcs⟩, _⟩ := h (1, fun cs => cs = (Lib.pow10Tab.map fun z => Value.int .u64 z).toArray) (by simp [tabs])
  have hcs' : cs = (Lib.pow10Tab.map fun z => Value.int .u64 z).toArray := hcs
  subst hcs'
  have hg : Tryz.prog.globalNamed "internal/strconv.uint64pow10" = some 1 := by kernel_rfl
  unfold Lib.TabIs World.var?
  rw [hg]
  simp only [Option.bind_some, h1]
def F.dig (n : Int) : List UInt8 := [UInt8.ofNat (48 + n.toNat)]
def F.itl : Nat → Int → List UInt8 → List UInt8
  | 0, _, acc => acc
  | f + 1, n, acc => if 0 < n ∨ acc = [] then F.itl f (n / 10) (F.dig (n % 10) ++ acc) else acc
def F.itoa (n : Int) : List UInt8 := F.itl 30 n []
def F.itoaZ (n : Int) : List UInt8 := if n < 0 then 45 :: F.itoa (-n) else F.itoa n
theorem itl_dec : ∀ (f : Nat) (n : Nat) (acc : List UInt8), n < 10 ^ f → 0 < f → acc = [] ∨ 0 < n → F.itl f (n : Int) acc = Lib.decDigits n ++ acc
  | 0, n, acc, _, h, _ => absurd h (by decide)
  | f + 1, n, acc, hn, _, ha => by
    have c : 0 < (n : Int) ∨ acc = [] := by
      rcases ha with h | h
      · exact .inr h
      · exact .inl (by omega)
    have e1 : (n : Int) / 10 = ((n / 10 : Nat) : Int) := by omega
    have e2 : F.dig ((n : Int) % 10) = [UInt8.ofNat (48 + n % 10)] := by
      unfold F.dig
      congr 2
    rw [F.itl, if_pos c, e1, e2, Lib.decDigits]
    by_cases h : n < 10
    · rw [dif_pos h]
      have e0 : n / 10 = 0 := by omega
      have e3 : n % 10 = n := by omega
      rw [e0, e3]
      cases f with
      | zero => rfl
      | succ f => rw [F.itl, if_neg (by simp)]
    · rw [dif_neg h]
      have hf : 0 < f := by
        cases f with
        | zero => simp at hn; omega
        | succ f => omega
      have hp : 10 ^ (f + 1) = 10 * 10 ^ f := by rw [Nat.pow_succ, Nat.mul_comm]
      rw [itl_dec f (n / 10) _ (by omega) hf (.inr (by omega)), List.append_assoc]
theorem itoa_dec (n : Int) (h0 : -9223372036854775808 ≤ n) (h1 : n ≤ 9223372036854775807) : Lib.itoa n = F.itoaZ n := by
  have hp : 10 ^ 30 = 1000000000000000000000000000000 := by decide
  unfold Lib.itoa F.itoaZ F.itoa
  split
  · have e : -n = ((n.natAbs : Nat) : Int) := by omega
    rw [e, itl_dec 30 _ [] (by omega) (by decide) (.inl rfl), List.append_nil]
  · have e : n = ((n.toNat : Nat) : Int) := by omega
    rw [e, itl_dec 30 _ [] (by omega) (by decide) (.inl rfl), List.append_nil, Int.toNat_natCast]
def s_itoa : Summ cod := fun args _ => match args with
  | [.c (.int .i64 n)] => .need (i64ok n) (.ret (.c (.str (F.itoaZ n)), []))
  | _ => .fail
theorem itoa_sound : Sound Tryz.prog cod 28 s_itoa := by
  refine Sound.scal (fun args w => enters_fn Tryz.func28 rfl rfl args w) fun args H r news w ht hg => ?_
  unfold s_itoa at hg
  split at hg
  · rename_i n
    obtain ⟨hn, hg⟩ := hg
    cases hg
    rw [← itoa_dec n hn.1 hn.2]
    refine ⟨rfl, rfl, .string ⟨(Lib.itoa n).toArray⟩, fun _ _ => rfl, ?_⟩
    refine (Any.strconv_Itoa YtiolfkmkbccndaaGreatDoor.laysItoa n hn.1 hn.2 w (tab10 ht)).mono ?_
    rintro e w' ⟨rfl, k, os, rfl⟩
    exact ⟨rfl, kin_grow⟩
  · exact hg.elim
end
end Go.Proofs.YtiolfkmkbccndaaGreatDoor
end
