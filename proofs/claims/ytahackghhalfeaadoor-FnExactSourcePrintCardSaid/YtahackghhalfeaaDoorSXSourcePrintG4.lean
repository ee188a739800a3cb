/- The program logic with symbolic states that this claim stands on (a text of several, laid together). -/
import Derived.Test.YtahackghhalfeaaDoorSXSourcePrintG3
import Derived.Shelf.Strings.Builder1
import Derived.Shelf.Strings.Builder2
import Derived.Shelf.Strings.OnBuilder
import Derived.Shelf.Strings.BuilderF
import Derived.Shelf.Strings.BuilderK
import Derived.Shelf.Strings.Builder2Cap
import Derived.Shelf.Strconv.Itoa0
import Derived.Shelf.Strconv.Itoa1
import Derived.Shelf.LaysM
import Derived.Shelf.Strconv.Itoa2
import Derived.Shelf.Strconv.Itoa3
import Derived.Shelf.Strings.BuilderCap
import Derived.Test.YtahackghhalfeaaDoorProg
import Derived.WalkKit
import Derived.Lib.AppendIntMem
import Derived.RowKit3
import Derived.Deep.LoopGhost
import Derived.BigQuiet
import Derived.Test.YtahackghhalfeaaDoorRows
import Derived.Lib.LaidTab
import Derived.Stop.LaidErr
import Derived.Shelf.Vars
import Derived.WalkSmall
import Derived.SevenTiedAt
import Derived.LaidMore
import Derived.Handed
section
set_option linter.unusedVariables false
set_option linter.unusedSimpArgs false
namespace Go.Sy
open Go.RowKit
structure SlAt (w : World) (A : Option Addr) (es : Nat) (xs : List V) : Prop where
  hit : ∀ (k : Nat) (cs : List V), xs[k]? = some (.agg cs) → cs ≠ [] → ∃ ad, A = some ad ∧ ad.block < w.heap.size ∧ ∀ (j : Nat) (n : Int), cs[j]? = some (.int .i64 n) → w.cell? (ad.add (k * es + j)) = some (.int .i64 n)
theorem sl_at {G : Gh} {w : World} {v : Value} {p : Bool} {es : Nat} {xs : List V} (H : Hold G w (obs [])) (h : G.Rep w v (.sl p es xs)) : ∃ (A : Option Addr) (c : Nat), v = .slice A xs.length c ∧ xs.length ≤ maxLen ∧ SlAt w A es xs := by
  have g0 := Rep.inv_sl h
  cases g0 with
  | slE A c => exact ⟨A, c, rfl, by simp, ⟨fun k cs hk => by simp at hk⟩⟩
  | sl ad m c _ _ _ u hm hc hmx hp' hl' hu' ho' hq' hr =>
    refine ⟨some ad, c, by rw [hm], by omega, ⟨fun k cs hk hne => ⟨ad, rfl, ?_, fun j n hj => ?_⟩⟩⟩
    · refine H.lt _ ?_
      cases p with
      | true => exact H.ij _ (by simpa using hp')
      | false => simpa using hp'
    · have q := hu' k (.agg cs) hk j (.int .i64 n) hj
      have q2 := hr k (.agg cs) hk j (.int .i64 n) hj
      rw [q]
      have := Rep.inv_int (Rep.g q2 : Rep (fun _ => none) w G.I G.J (u k j) (.int .i64 n))
      rw [this]
theorem SlAt.below {w w' : World} {A : Option Addr} {es : Nat} {xs : List V} (h : SlAt w A es xs) (hb : Below w.heap.size w w') : SlAt w' A es xs := by
  refine ⟨fun k cs hk hne => ?_⟩
  obtain ⟨ad, h1, h2, h3⟩ := h.hit k cs hk hne
  refine ⟨ad, h1, Nat.lt_of_lt_of_le h2 hb.size, fun j n hj => ?_⟩
  have e : (ad.add (k * es + j)).block = ad.block := by unfold Addr.add; split <;> rfl
  rw [← h3 j n hj]
  exact hb.cell (by rw [e]; exact h2)
theorem addF (ad : Addr) (a j : Nat) (h : 0 < j) : ad.add (a + j) = ⟨(ad.add a).block, (ad.add a).off + j, none⟩ := by
  unfold Addr.add
  rw [if_neg (by omega)]
  by_cases q : a = 0
  · subst q; simp
  · rw [if_neg q]; simp; omega
theorem zon_at {w : World} {A : Option Addr} {zs : List Zon} (h : SlAt w A 3 (zs.map encZon)) {k : Nat} {z : Zon} (he : zs[k]? = some z) :
    ∃ ad, A = some ad ∧ w.cell? (ad.add (k * 3)) = some (.int .i64 z.name) ∧ w.cell? ⟨(ad.add (k * 3)).block, (ad.add (k * 3)).off + 1, none⟩ = some (.int .i64 z.off) ∧ w.cell? ⟨(ad.add (k * 3)).block, (ad.add (k * 3)).off + 2, none⟩ = some (.int .i64 z.rule) := by
  obtain ⟨ad, h1, h2, h3⟩ := h.hit k _ (by rw [List.getElem?_map, he]; rfl) (by simp)
  refine ⟨ad, h1, h3 0 _ rfl, ?_, ?_⟩
  · rw [← addF _ _ 1 (by omega)]; exact h3 1 _ rfl
  · rw [← addF _ _ 2 (by omega)]; exact h3 2 _ rfl
theorem rul_at {w : World} {A : Option Addr} {zs : List Rul} (h : SlAt w A 9 (zs.map encRul)) {k : Nat} {z : Rul} (he : zs[k]? = some z) :
    ∃ ad, A = some ad ∧ w.cell? (ad.add (k * 9)) = some (.int .i64 z.name) ∧ w.cell? ⟨(ad.add (k * 9)).block, (ad.add (k * 9)).off + 1, none⟩ = some (.int .i64 z.from_) ∧ w.cell? ⟨(ad.add (k * 9)).block, (ad.add (k * 9)).off + 2, none⟩ = some (.int .i64 z.to)
      ∧ w.cell? ⟨(ad.add (k * 9)).block, (ad.add (k * 9)).off + 3, none⟩ = some (.int .i64 z.month) ∧ w.cell? ⟨(ad.add (k * 9)).block, (ad.add (k * 9)).off + 4, none⟩ = some (.int .i64 z.on.kind) ∧ w.cell? ⟨(ad.add (k * 9)).block, (ad.add (k * 9)).off + 5, none⟩ = some (.int .i64 z.on.day)
      ∧ w.cell? ⟨(ad.add (k * 9)).block, (ad.add (k * 9)).off + 6, none⟩ = some (.int .i64 z.on.week) ∧ w.cell? ⟨(ad.add (k * 9)).block, (ad.add (k * 9)).off + 7, none⟩ = some (.int .i64 z.at_) ∧ w.cell? ⟨(ad.add (k * 9)).block, (ad.add (k * 9)).off + 8, none⟩ = some (.int .i64 z.save) := by
  obtain ⟨ad, h1, h2, h3⟩ := h.hit k _ (by rw [List.getElem?_map, he]; rfl) (by simp)
  refine ⟨ad, h1, h3 0 _ rfl, ?_, ?_, ?_, ?_, ?_, ?_, ?_, ?_⟩
  · rw [← addF _ _ 1 (by omega)]; exact h3 1 _ rfl
  · rw [← addF _ _ 2 (by omega)]; exact h3 2 _ rfl
  · rw [← addF _ _ 3 (by omega)]; exact h3 3 _ rfl
  · rw [← addF _ _ 4 (by omega)]; exact h3 4 _ rfl
  · rw [← addF _ _ 5 (by omega)]; exact h3 5 _ rfl
  · rw [← addF _ _ 6 (by omega)]; exact h3 6 _ rfl
  · rw [← addF _ _ 7 (by omega)]; exact h3 7 _ rfl
  · rw [← addF _ _ 8 (by omega)]; exact h3 8 _ rfl
def posR (n : Int) : List Rul → Nat → Int
  | [], _ => -1
  | z :: l, i => if z.name = n then (i : Int) else posR n l (i + 1)
theorem posR_has (n : Int) (zs : List Rul) (i : Nat) : hasR n zs = decide (posR n zs i ≥ 0) := by
  induction zs generalizing i with
  | nil => simp [posR, hasR]
  | cons z l ih =>
    unfold posR hasR
    split
    · simp
    · exact ih (i + 1)
theorem posR_drop {l : List Rul} {a : Int} {k : Nat} {z : Rul} (he : l[k]? = some z) : posR a (l.drop k) k = if (z.name == a) = true then (k : Int) else posR a (l.drop (k + 1)) (k + 1) := by
  rw [dropCons he]; simp only [posR, beq_iff_eq]
theorem posZ_drop {l : List Zon} {a : Int} {k : Nat} {z : Zon} (he : l[k]? = some z) : posZ a (l.drop k) k = if (z.name == a) = true then (k : Int) else posZ a (l.drop (k + 1)) (k + 1) := by
  rw [dropCons he]; simp only [posZ, beq_iff_eq]
theorem inv_agg2 {G : Gh} {w : World} {v : Value} {a b c : V} (h : G.Rep w v (.agg [a, b, c])) : ∃ x y z, v = .agg #[x, y, z] ∧ G.Rep w x a ∧ G.Rep w y b ∧ G.Rep w z c := by
  obtain ⟨s, rfl, hn, hr⟩ := Rep.inv_agg h
  refine ⟨_, _, _, ?_, hr 0 _ rfl, hr 1 _ rfl, hr 2 _ rfl⟩
  congr 1
  apply Array.ext (by simpa using hn)
  intro i h1 h2
  have : i = 0 ∨ i = 1 ∨ i = 2 := by simp at h2; omega
  rcases this with rfl | rfl | rfl <;> simp [Array.getD, h1]
theorem sargs2 {args : Array Value} (h : args.size = 2) : args = #[args.getD 0 undef, args.getD 1 undef] := by
  apply Array.ext (by simpa using h)
  intro i h1 h2
  have : i = 0 ∨ i = 1 := by simp at h2; omega
  rcases this with rfl | rfl <;> simp [Array.getD, h1]
theorem join_g {P : Program} {f : Nat} (xs : List ByteArray) (sep R : ByteArray)
    (h0 : xs = [] → ∀ (a : Option Addr) (c : Nat) (w : World), Calls P f #[.slice a 0 c, .string sep] w fun e w' => e = .returned (.string R) ∧ Below w.heap.size w w')
    (h1 : ∀ (bk o c : Nat) (w : World), (∀ (j : Nat) x, xs[j]? = some x → w.cell? ⟨bk, o + j, none⟩ = some (.string x)) → bk < w.heap.size → xs.length ≤ c → Calls P f #[.slice (some ⟨bk, o, none⟩) xs.length c, .string sep] w fun e w' => e = .returned (.string R) ∧ Below w.heap.size w w') :
    FnSpec P f [.sl false 1 (xs.map encS), .str sep] [] (.str R) [] := by
  refine FnSpec.pure (.string R) (fun G w => .g (.str _)) ?_
  intro G w args H hn ha
  have g0 := Rep.inv_sl (ha 0 _ rfl)
  have g1 := Rep.inv_str (ha 1 _ rfl)
  rw [sargs2 hn, g1]
  generalize args.getD 0 undef = v at g0
  generalize hX : xs.map encS = X at g0
  cases g0 with
  | slE A c => exact h0 (List.map_eq_nil_iff.1 hX) A c w
  | sl ad m c _ _ _ u hm hc hmx hp' hl' hu' ho' hq' hr =>
    subst hX
    have hm' : m = xs.length := by rw [← hm, List.length_map]
    subst hm'
    cases xs with
    | nil => exact h0 rfl _ _ w
    | cons x l =>
      have cell : ∀ (j : Nat) (y : ByteArray), (x :: l)[j]? = some y → w.cell? (ad.add j) = some (.string y) := by
        intro j y hy
        have q := hu' j (encS y) (by rw [List.getElem?_map, hy]; rfl) 0 (.str y) rfl
        have q2 := hr j (encS y) (by rw [List.getElem?_map, hy]; rfl) 0 (.str y) rfl
        cases q2h : u j 0 with
        | string s => rw [q2h] at q2; cases q2; rw [show j * 1 + 0 = j by omega, q2h] at q; exact q
        | _ => rw [q2h] at q2; cases q2
      obtain ⟨bk, o, sp⟩ := ad
      have hsp : sp = none := by
        have q := cell 0 x rfl
        rw [show (⟨bk, o, sp⟩ : Addr).add 0 = ⟨bk, o, sp⟩ from by unfold Addr.add; rw [if_pos rfl]] at q
        unfold World.cell? at q
        simp only at q
        split at q
        · split at q
          · cases q
          · rename_i h; simpa using h
        · cases q
      subst hsp
      refine h1 bk o c w (fun j y hy => by rw [← add_lit]; exact cell j y hy) ?_ hc
      exact H.lt _ (by simpa using hp')
end Go.Sy
end

section
namespace Go.Proofs
open Go.Shelf
open Go.RowKit in
def Tryd.lays156_ren : Go.Shelf.Ren := ⟨fun | 156 => 23 | 165 => 41 | 166 => 42 | 169 => 43 | 240 => 62 | 241 => 63 | 276 => 67 | 277 => 68 | n => n, fun | 31 => 55 | 9 => 9 | 3 => 3 | 4 => 4 | 0 => 0 | 20 => 20 | 72 => 79 | 76 => 83 | 70 => 77 | 37 => 63 | 75 => 82 | 127 => 95 | 164 => 99 | 5 => 5 | 80 => 85 | n => n, fun | n => n⟩
theorem Tryd.lays156 : Go.Proofs.Lays.n156 Tryd.prog Tryd.lays156_ren := {
  mixed := by kernel_rfl
  f156 := Tryd.func23.trans (congrArg some (by kernel_rfl))
  f165 := Tryd.func41.trans (congrArg some (by kernel_rfl))
  f166 := Tryd.func42.trans (congrArg some (by kernel_rfl))
  f169 := Tryd.func43.trans (congrArg some (by kernel_rfl))
  f240 := Tryd.func62.trans (congrArg some (by kernel_rfl))
  f241 := Tryd.func63.trans (congrArg some (by kernel_rfl))
  f276 := Tryd.func67.trans (congrArg some (by kernel_rfl))
  f277 := Tryd.func68.trans (congrArg some (by kernel_rfl))
  t0 := Tryd.underlying0
  a0 := Tryd.isAgg0
  z0 := Tryd.sizeOf0
  v0 := Tryd.zeroValue0
  t3 := Tryd.underlying3
  a3 := Tryd.isAgg3
  z3 := Tryd.sizeOf3
  v3 := Tryd.zeroValue3
  t4 := Tryd.underlying4
  a4 := Tryd.isAgg4
  z4 := Tryd.sizeOf4
  v4 := Tryd.zeroValue4
  t9 := Tryd.underlying9
  a9 := Tryd.isAgg9
  z9 := Tryd.sizeOf9
  v9 := Tryd.zeroValue9
  t20 := Tryd.underlying20
  a20 := Tryd.isAgg20
  z20 := Tryd.sizeOf20
  v20 := Tryd.zeroValue20
  t31 := Tryd.underlying55
  a31 := Tryd.isAgg55
  z31 := Tryd.sizeOf55
  v31 := Tryd.zeroValue55
  t37 := Tryd.underlying63
  a37 := Tryd.isAgg63
  z37 := Tryd.sizeOf63
  v37 := Tryd.zeroValue63
  t70 := Tryd.underlying77
  a70 := Tryd.isAgg77
  z70 := Tryd.sizeOf77
  v70 := Tryd.zeroValue77
  t72 := Tryd.underlying79
  a72 := Tryd.isAgg79
  z72 := Tryd.sizeOf79
  v72 := Tryd.zeroValue79
  t75 := Tryd.underlying82
  a75 := Tryd.isAgg82
  z75 := Tryd.sizeOf82
  v75 := Tryd.zeroValue82
  t76 := Tryd.underlying83
  a76 := Tryd.isAgg83
  z76 := Tryd.sizeOf83
  v76 := Tryd.zeroValue83
  t127 := Tryd.underlying95
  a127 := Tryd.isAgg95
  z127 := Tryd.sizeOf95
  v127 := Tryd.zeroValue95
  t164 := Tryd.underlying99
  a164 := Tryd.isAgg99
  z164 := Tryd.sizeOf99
  v164 := Tryd.zeroValue99 }
theorem Tryd.Builder_Extra_156 : Builder.Extra Tryd.prog Tryd.lays156_ren := {
  sizeBuilder := by kernel_rfl
  liesBuilder := by kernel_rfl
  t5 := Tryd.underlying5
  a5 := Tryd.isAgg5
  z5 := Tryd.sizeOf5
  v5 := Tryd.zeroValue5
  infoByte := by kernel_rfl
  cellsByte := by kernel_rfl
  sizeByte := by kernel_rfl
  neB5 := by decide }
open Go.RowKit in
theorem Tryd.strings_Join_none (a : Option Addr) (c : Nat) (sep : ByteArray) (w : World) :
    Calls Tryd.prog 23 #[.slice a 0 c, .string sep] w fun e w' => e = .returned (.string ⟨#[]⟩) ∧ w' = w := Any.strings_Join_none Tryd.lays156 Tryd.Builder_Extra_156 a c sep w
open Go.RowKit in
theorem Tryd.strings_Join (bk o c : Nat) (xs : List ByteArray) (sep : ByteArray) (w : World) (hcells : ∀ (j : Nat) x, xs[j]? = some x → w.cell? ⟨bk, o + j, none⟩ = some (.string x)) (hbk : bk < w.heap.size) (hN : xs.length ≤ 140737488355328) (hcap : xs.length ≤ c) (hlen : (Lib.join (xs.map (·.data.toList)) sep.data.toList).length ≤ 140737488355328) :
    Calls Tryd.prog 23 #[.slice (some ⟨bk, o, none⟩) xs.length c, .string sep] w fun e w' => e = .returned (.string ⟨(Lib.join (xs.map (·.data.toList)) sep.data.toList).toArray⟩) ∧ Below w.heap.size w w' := Any.strings_Join Tryd.lays156 Tryd.Builder_Extra_156 bk o c xs sep w hcells hbk hN hcap hlen
open Go.RowKit Go.Sort Go.Lib in
def Tryd.laysM171_ren : Go.Shelf.Ren := ⟨fun | 171 => 39 | 243 => 61 | 246 => 66 | 283 => 69 | 284 => 70 | 285 => 71 | 286 => 72 | 129 => 74 | 317 => 73 | 318 => 75 | 319 => 76 | 320 => 77 | 337 => 78 | 338 => 79 | n => n, fun | 3 => 3 | 9 => 9 | 2 => 2 | 4 => 4 | 171 => 102 | 0 => 0 | 53 => 103 | 37 => 63 | 5 => 5 | 173 => 106 | 212 => 110 | 51 => 111 | 20 => 20 | 213 => 112 | 46 => 113 | 232 => 116 | 233 => 117 | n => n, fun | 17 => 1 | 18 => 2 | 19 => 3 | n => n⟩
theorem Tryd.laysM171 : Go.Proofs.LaysM.n171 Tryd.prog Tryd.laysM171_ren := {
  mixed := by kernel_rfl
  f129 := Tryd.func74.trans (congrArg some (by kernel_rfl))
  f171 := Tryd.func39.trans (congrArg some (by kernel_rfl))
  f243 := Tryd.func61.trans (congrArg some (by kernel_rfl))
  f246 := Tryd.func66.trans (congrArg some (by kernel_rfl))
  f283 := Tryd.func69.trans (congrArg some (by kernel_rfl))
  f284 := Tryd.func70.trans (congrArg some (by kernel_rfl))
  f285 := Tryd.func71.trans (congrArg some (by kernel_rfl))
  f286 := Tryd.func72.trans (congrArg some (by kernel_rfl))
  f317 := Tryd.func73.trans (congrArg some (by kernel_rfl))
  f318 := Tryd.func75.trans (congrArg some (by kernel_rfl))
  f319 := Tryd.func76.trans (congrArg some (by kernel_rfl))
  f320 := Tryd.func77.trans (congrArg some (by kernel_rfl))
  f337 := Tryd.func78.trans (congrArg some (by kernel_rfl))
  f338 := Tryd.func79.trans (congrArg some (by kernel_rfl))
  t0 := Tryd.underlying0
  a0 := Tryd.isAgg0
  z0 := Tryd.sizeOf0
  v0 := Tryd.zeroValue0
  t2 := Tryd.underlying2
  a2 := Tryd.isAgg2
  z2 := Tryd.sizeOf2
  v2 := Tryd.zeroValue2
  t3 := Tryd.underlying3
  a3 := Tryd.isAgg3
  z3 := Tryd.sizeOf3
  v3 := Tryd.zeroValue3
  t4 := Tryd.underlying4
  a4 := Tryd.isAgg4
  z4 := Tryd.sizeOf4
  v4 := Tryd.zeroValue4
  t5 := Tryd.underlying5
  a5 := Tryd.isAgg5
  z5 := Tryd.sizeOf5
  v5 := Tryd.zeroValue5
  t9 := Tryd.underlying9
  a9 := Tryd.isAgg9
  z9 := Tryd.sizeOf9
  v9 := Tryd.zeroValue9
  t20 := Tryd.underlying20
  a20 := Tryd.isAgg20
  z20 := Tryd.sizeOf20
  v20 := Tryd.zeroValue20
  t37 := Tryd.underlying63
  a37 := Tryd.isAgg63
  z37 := Tryd.sizeOf63
  v37 := Tryd.zeroValue63
  t46 := Tryd.underlying113
  a46 := Tryd.isAgg113
  z46 := Tryd.sizeOf113
  v46 := Tryd.zeroValue113
  t51 := Tryd.underlying111
  a51 := Tryd.isAgg111
  z51 := Tryd.sizeOf111
  v51 := Tryd.zeroValue111
  t53 := Tryd.underlying103
  a53 := Tryd.isAgg103
  z53 := Tryd.sizeOf103
  v53 := Tryd.zeroValue103
  t171 := Tryd.underlying102
  a171 := Tryd.isAgg102
  z171 := Tryd.sizeOf102
  v171 := Tryd.zeroValue102
  t173 := Tryd.underlying106
  a173 := Tryd.isAgg106
  z173 := Tryd.sizeOf106
  v173 := Tryd.zeroValue106
  t212 := Tryd.underlying110
  a212 := Tryd.isAgg110
  z212 := Tryd.sizeOf110
  v212 := Tryd.zeroValue110
  t213 := Tryd.underlying112
  a213 := Tryd.isAgg112
  z213 := Tryd.sizeOf112
  t232 := Tryd.underlying116
  a232 := Tryd.isAgg116
  z232 := Tryd.sizeOf116
  v232 := Tryd.zeroValue116
  t233 := Tryd.underlying117
  a233 := Tryd.isAgg117
  z233 := Tryd.sizeOf117
  v233 := Tryd.zeroValue117
  g17 := by kernel_rfl
  g18 := by kernel_rfl
  g19 := by kernel_rfl
  i0 := by kernel_rfl
  i2 := by kernel_rfl
  i3 := by kernel_rfl
  i4 := by kernel_rfl
  i5 := by kernel_rfl
  i9 := by kernel_rfl
  i20 := by kernel_rfl
  i37 := by kernel_rfl
  i46 := by kernel_rfl
  i51 := by kernel_rfl
  i53 := by kernel_rfl
  i171 := by kernel_rfl
  i173 := by kernel_rfl
  i212 := by kernel_rfl
  i232 := by kernel_rfl
  i233 := by kernel_rfl
  m17 := by kernel_rfl
  m18 := by kernel_rfl
  m19 := by kernel_rfl }
open Go.RowKit Go.Sort Go.Lib in
theorem Tryd.strconv_Itoa (n : Int) (h0 : -9223372036854775808 ≤ n) (h1 : n ≤ 9223372036854775807) (w : World) (htab : Lib.TabIs Tryd.prog w "internal/strconv.uint64pow10" .u64 Lib.pow10Tab) :
    Calls Tryd.prog 39 #[.int .i64 n] w fun e w' => e = .returned (.string ⟨(Lib.itoa n).toArray⟩) ∧ ∃ k os, w' = grow (w.drewN k) os := Any.strconv_Itoa Tryd.laysM171 n h0 h1 w htab
end Go.Proofs
end

section
set_option linter.unusedVariables false
set_option linter.unusedSimpArgs false
namespace Go.Proofs.YtahackghhalfeaaDoor.OnRd
open Go Go.Sy Go.Proofs Go.RowKit
structure Aside0 (p : Prop) : Prop where
  out : p
theorem below_step {w w1 w2 : World} (h : Below w.heap.size w w1) (k : Below w1.heap.size w1 w2) : Below w.heap.size w w2 := h.trans (k.mono h.size)
/-- What the library's variables hold. -/
structure Gl (w : World) : Prop where
  tb : Lib.TabIs Tryd.prog w "internal/strconv.uint64pow10" .u64 Lib.pow10Tab
def GB (w : World) : Prop := ∀ W, Below w.heap.size w W → Gl W
theorem GB.step {w W : World} (h : GB w) (hb : Below w.heap.size w W) : GB W := fun W' hb' => h W' (below_step hb hb')
theorem GB.here {w : World} (h : GB w) : Gl w := h w (Below.refl _ _)
theorem glLasts : Lasts GB := ⟨fun _ _ h hb => h.step hb⟩
theorem grow_b (w : World) (k : Nat) (os : Array Obj) : Below w.heap.size w («Sort».grow (w.drewN k) os) := Lib.below_grow _ _ (Nat.le_refl _) k os
theorem digits_t (n : Int) (h0 : -9223372036854775808 ≤ n) (h1 : n ≤ 9223372036854775807) (w : World) (hg : GB w) :
    Calls Tryd.prog 21 #[.int .i64 n] w fun e w' => e = .returned (.string ⟨(Lib.itoa n).toArray⟩) ∧ Below w.heap.size w w' := by
  go_enter Tryd.func21, Tryd.ntmps21
  go_wp2_with (go_at_call 39; refine (Tryd.strconv_Itoa n h0 h1 _ hg.here.tb).mono ?_; rintro e w' ⟨rfl, k, os, rfl⟩)
  go_ret
  exact ⟨rfl, grow_b _ _ _⟩
theorem args1 {args : Array Value} (h : args.size = 1) : args = #[args.getD 0 undef] := by
  apply Array.ext (by simpa using h)
  intro i h1 h2
  have : i = 0 := by simp at h2; omega
  subst this; simp [Array.getD, h1]
theorem digits_q (n : Int) (h : -9223372036854775808 ≤ n ∧ n ≤ 9223372036854775807) : FnSpecQ GB Tryd.prog 21 [.int .i64 n] (.str (strOf (Lib.itoa n))) := by
  refine FnSpecQ.pure (.string (strOf (Lib.itoa n))) (fun G w => .g (.str _)) (fun G w args hQ hn ha => ?_)
  have g0 := Rep.inv_int (ha 0 _ rfl)
  rw [args1 hn, g0]
  exact digits_t n h.1 h.2 w hQ
theorem join_q (xs : List ByteArray) (sep : ByteArray) (hl : xs.length ≤ 1048576) (hs : (Lib.join (xs.map (·.data.toList)) sep.data.toList).length ≤ 1048576) :
    FnSpec Tryd.prog 23 [.sl false 1 (xs.map encS), .str sep] [] (.str (strOf (Lib.join (xs.map (·.data.toList)) sep.data.toList))) [] := by
  refine join_g xs sep _ ?_ ?_
  · rintro rfl a c w
    refine (Tryd.strings_Join_none a c sep w).mono ?_
    rintro e w' ⟨rfl, rfl⟩
    exact ⟨rfl, Below.refl _ _⟩
  · intro bk o c w hc hb hcap
    exact (Tryd.strings_Join bk o c xs sep w hc hb (by omega) hcap (by omega)).mono fun e w' h => ⟨h.1, h.2⟩
/-! ### closures -/
set_option maxHeartbeats 1000000 in
theorem predR (x : Rul) (a : Int) (B : Nat) (w : World) (hc : w.cell? ⟨B, 0, none⟩ = some (.int .i64 a)) (hB : B < w.heap.size) :
    Calls Tryd.prog 58 #[.agg #[.int .i64 x.name, .int .i64 x.from_, .int .i64 x.to, .int .i64 x.month, .int .i64 x.on.kind, .int .i64 x.on.day, .int .i64 x.on.week, .int .i64 x.at_, .int .i64 x.save], .pointer (some ⟨B, 0, none⟩)] w fun e w' => e = .returned (.bool (x.name == a)) ∧ Below w.heap.size w w' := by
  go_enter Tryd.func58, Tryd.ntmps58
  go_wp2
  go_ret
  exact ⟨rfl, (Below.refl _ _).alloc (Nat.le_refl _) _⟩
set_option maxHeartbeats 1000000 in
theorem predZ (x : Zon) (a : Int) (B : Nat) (w : World) (hc : w.cell? ⟨B, 0, none⟩ = some (.int .i64 a)) (hB : B < w.heap.size) :
    Calls Tryd.prog 60 #[.agg #[.int .i64 x.name, .int .i64 x.off, .int .i64 x.rule], .pointer (some ⟨B, 0, none⟩)] w fun e w' => e = .returned (.bool (x.name == a)) ∧ Below w.heap.size w w' := by
  go_enter Tryd.func60, Tryd.ntmps60
  go_wp2
  go_ret
  exact ⟨rfl, (Below.refl _ _).alloc (Nat.le_refl _) _⟩
set_option maxHeartbeats 2000000 in
theorem idxZ (A0 : Option Addr) (c0 : Nat) (l0 : List Zon) (a : Int) (B : Nat) (w : World) (hr : SlAt w A0 3 (l0.map encZon)) (hbig : l0.length ≤ maxLen) (hc : w.cell? ⟨B, 0, none⟩ = some (.int .i64 a)) (hB : B < w.heap.size) :
    Calls Tryd.prog 59 #[.slice A0 l0.length c0, .func (.func 60) #[] #[.pointer (some ⟨B, 0, none⟩)]] w fun e w' => e = .returned (.int .i64 (posZ a l0 0)) ∧ Below w.heap.size w w' := by
  have hbig : l0.length ≤ 9223372036854775807 := by unfold maxLen at hbig; omega
  have HR := Aside0.mk hr
  have HC := Aside0.mk hc
  have HB := Aside0.mk hB
  clear hr hc hB
  go_enter Tryd.func59, Tryd.ntmps59
  go_wp2
  go_loopg [5, 8] l0.length (fun gg _ s8 wr => ∃ kk : Nat, kk ≤ l0.length ∧ l0.length - kk ≤ gg ∧ s8 = .int .i64 kk ∧ Aside0 (Below w.heap.size w wr) ∧ Aside0 (posZ a (l0.drop kk) kk = posZ a l0 0))
  case atStart => exact ⟨0, Nat.zero_le _, by omega, rfl, ⟨Below.refl _ w⟩, ⟨rfl⟩⟩
  case round =>
    obtain ⟨kk, hkk, hg, rfl, BW, AT⟩ := hrel
    by_cases hlt : kk < l0.length
    · have hltz : (kk : Int) < (l0.length : Int) := by omega
      have hsz := BW.out.size
      obtain ⟨y, hy⟩ : ∃ y, l0[kk]? = some y := ⟨_, List.getElem?_eq_getElem hlt⟩
      obtain ⟨ad, rfl, h0, h1, h2⟩ := zon_at (HR.out.below BW.out) hy
      have hcall := predZ y a B wr ((BW.out.cell (p := ⟨B, 0, none⟩) HB.out).trans HC.out) (Nat.lt_of_lt_of_le HB.out hsz)
      have D := Aside0.mk (posZ_drop (a := a) hy)
      have hy := Aside0.mk hy
      cases hq : (y.name == a) with
      | true =>
        rw [hq] at hcall D
        go_wp2_with (go_at_call 60; refine hcall.mono ?_; rintro e w' ⟨rfl, hb'⟩)
        go_ret
        refine ⟨?_, BW.out.trans (hb'.mono hsz)⟩
        rw [← AT.out, D.out]
        simp
      | false =>
        rw [hq] at hcall D
        go_wp2_with (go_at_call 60; refine hcall.mono ?_; rintro e w' ⟨rfl, hb'⟩)
        go_roundg (l0.length - (kk + 1))
        case measure => omega
        case rel => exact ⟨kk + 1, by omega, by omega, by go_num, ⟨BW.out.trans (hb'.mono hsz)⟩, ⟨by rw [← AT.out, D.out]; simp⟩⟩
    · have hltz : ¬ (kk : Int) < (l0.length : Int) := by omega
      have : kk = l0.length := by omega
      subst this
      go_wp2
      go_ret
      refine ⟨?_, BW.out⟩
      rw [← AT.out, List.drop_length]
      rfl
set_option maxHeartbeats 2000000 in
theorem idxR (A0 : Option Addr) (c0 : Nat) (l0 : List Rul) (a : Int) (B : Nat) (w : World) (hr : SlAt w A0 9 (l0.map encRul)) (hbig : l0.length ≤ maxLen) (hc : w.cell? ⟨B, 0, none⟩ = some (.int .i64 a)) (hB : B < w.heap.size) :
    Calls Tryd.prog 65 #[.slice A0 l0.length c0, .func (.func 58) #[] #[.pointer (some ⟨B, 0, none⟩)]] w fun e w' => e = .returned (.int .i64 (posR a l0 0)) ∧ Below w.heap.size w w' := by
  have hbig : l0.length ≤ 9223372036854775807 := by unfold maxLen at hbig; omega
  have HR := Aside0.mk hr
  have HC := Aside0.mk hc
  have HB := Aside0.mk hB
  clear hr hc hB
  go_enter Tryd.func65, Tryd.ntmps65
  go_wp2
  go_loopg [5, 8] l0.length (fun gg _ s8 wr => ∃ kk : Nat, kk ≤ l0.length ∧ l0.length - kk ≤ gg ∧ s8 = .int .i64 kk ∧ Aside0 (Below w.heap.size w wr) ∧ Aside0 (posR a (l0.drop kk) kk = posR a l0 0))
  case atStart => exact ⟨0, Nat.zero_le _, by omega, rfl, ⟨Below.refl _ w⟩, ⟨rfl⟩⟩
  case round =>
    obtain ⟨kk, hkk, hg, rfl, BW, AT⟩ := hrel
    by_cases hlt : kk < l0.length
    · have hltz : (kk : Int) < (l0.length : Int) := by omega
      have hsz := BW.out.size
      obtain ⟨y, hy⟩ : ∃ y, l0[kk]? = some y := ⟨_, List.getElem?_eq_getElem hlt⟩
      obtain ⟨ad, rfl, h0, h1, h2, h3, h4, h5, h6, h7, h8⟩ := rul_at (HR.out.below BW.out) hy
      have hcall := predR y a B wr ((BW.out.cell (p := ⟨B, 0, none⟩) HB.out).trans HC.out) (Nat.lt_of_lt_of_le HB.out hsz)
      have D := Aside0.mk (posR_drop (a := a) hy)
      have hy := Aside0.mk hy
      cases hq : (y.name == a) with
      | true =>
        rw [hq] at hcall D
        go_wp2_with (go_at_call 58; refine hcall.mono ?_; rintro e w' ⟨rfl, hb'⟩)
        go_ret
        refine ⟨?_, BW.out.trans (hb'.mono hsz)⟩
        rw [← AT.out, D.out]
        simp
      | false =>
        rw [hq] at hcall D
        go_wp2_with (go_at_call 58; refine hcall.mono ?_; rintro e w' ⟨rfl, hb'⟩)
        go_roundg (l0.length - (kk + 1))
        case measure => omega
        case rel => exact ⟨kk + 1, by omega, by omega, by go_num, ⟨BW.out.trans (hb'.mono hsz)⟩, ⟨by rw [← AT.out, D.out]; simp⟩⟩
    · have hltz : ¬ (kk : Int) < (l0.length : Int) := by omega
      have : kk = l0.length := by omega
      subst this
      go_wp2
      go_ret
      refine ⟨?_, BW.out⟩
      rw [← AT.out, List.drop_length]
      rfl
set_option maxHeartbeats 1000000 in
theorem hasRc (A0 : Option Addr) (c0 : Nat) (l0 : List Rul) (a : Int) (B : Nat) (w : World) (hr : SlAt w A0 9 (l0.map encRul)) (hbig : l0.length ≤ maxLen) (hc : w.cell? ⟨B, 0, none⟩ = some (.int .i64 a)) (hB : B < w.heap.size) :
    Calls Tryd.prog 57 #[.slice A0 l0.length c0, .func (.func 58) #[] #[.pointer (some ⟨B, 0, none⟩)]] w fun e w' => e = .returned (.bool (hasR a l0)) ∧ Below w.heap.size w w' := by
  rw [posR_has a l0 0]
  go_enter Tryd.func57, Tryd.ntmps57
  go_wp2_with (go_at_call 65; refine (idxR A0 c0 l0 a B _ hr hbig hc hB).mono ?_; rintro e w' ⟨rfl, hb'⟩)
  go_ret
  exact ⟨rfl, hb'⟩
set_option maxHeartbeats 2000000 in
theorem hasRule_t (A0 A1 A2 : Option Addr) (n1 n2 c0 c1 c2 : Nat) (l0 : List Rul) (a : Int) (w : World) (hr : SlAt w A0 9 (l0.map encRul)) (hbig : l0.length ≤ maxLen) :
    Calls Tryd.prog 36 #[.agg #[.slice A0 l0.length c0, .slice A1 n1 c1, .slice A2 n2 c2], .int .i64 a] w fun e w' => e = .returned (.bool (hasR a l0)) ∧ Below w.heap.size w w' := by
  have HR := Aside0.mk hr
  clear hr
  go_enter Tryd.func36, Tryd.ntmps36
  go_wp2_with (go_at_call 57; refine (hasRc A0 c0 l0 a (w.heap.size + 1) _ ((HR.out.below ((Below.refl _ _).alloc (Nat.le_refl _) _)).below ((Below.refl _ _).alloc (Nat.le_refl _) _)) hbig (by simp) (by simp)).mono ?_; rintro e w' ⟨rfl, hb'⟩)
  go_ret
  exact ⟨rfl, ((((Below.refl _ _).alloc (Nat.le_refl _) _).alloc (by simp) _).trans (hb'.mono (by simp; omega)))⟩
set_option maxHeartbeats 2000000 in
theorem zoneAt_t (A0 A1 A2 : Option Addr) (n0 n2 c0 c1 c2 : Nat) (l1 : List Zon) (a : Int) (w : World) (hr : SlAt w A1 3 (l1.map encZon)) (hbig : l1.length ≤ maxLen) :
    Calls Tryd.prog 38 #[.agg #[.slice A0 n0 c0, .slice A1 l1.length c1, .slice A2 n2 c2], .int .i64 a] w fun e w' => e = .returned (.int .i64 (posZ a l1 0)) ∧ Below w.heap.size w w' := by
  have HR := Aside0.mk hr
  clear hr
  go_enter Tryd.func38, Tryd.ntmps38
  go_wp2_with (go_at_call 59; refine (idxZ A1 c1 l1 a (w.heap.size + 1) _ ((HR.out.below ((Below.refl _ _).alloc (Nat.le_refl _) _)).below ((Below.refl _ _).alloc (Nat.le_refl _) _)) hbig (by simp) (by simp)).mono ?_; rintro e w' ⟨rfl, hb'⟩)
  go_ret
  exact ⟨rfl, ((((Below.refl _ _).alloc (Nat.le_refl _) _).alloc (by simp) _).trans (hb'.mono (by simp; omega)))⟩
theorem src_args {G : Gh} {w : World} {v : Value} {s : Srce} (H : Hold G w (obs [])) (h : G.Rep w v (.agg [.sl false 9 (s.rules.map encRul), .sl false 3 (s.zones.map encZon), .sl false 2 (s.links.map encLnk)])) :
    ∃ (A0 A1 A2 : Option Addr) (c0 c1 c2 : Nat), v = .agg #[.slice A0 s.rules.length c0, .slice A1 s.zones.length c1, .slice A2 s.links.length c2] ∧ SlAt w A0 9 (s.rules.map encRul) ∧ SlAt w A1 3 (s.zones.map encZon) ∧ s.rules.length ≤ maxLen ∧ s.zones.length ≤ maxLen := by
  obtain ⟨x, y, z, rfl, r0, r1, r2⟩ := inv_agg2 h
  obtain ⟨A0, c0, rfl, m0, s0⟩ := sl_at H r0
  obtain ⟨A1, c1, rfl, m1, s1⟩ := sl_at H r1
  obtain ⟨A2, c2, rfl, m2, s2⟩ := sl_at H r2
  simp only [List.length_map] at m0 m1 m2 ⊢
  exact ⟨A0, A1, A2, c0, c1, c2, rfl, s0, s1, m0, m1⟩
theorem hasRule_s (s : Srce) (a : Int) : FnSpec Tryd.prog 36 [.agg [.sl false 9 (s.rules.map encRul), .sl false 3 (s.zones.map encZon), .sl false 2 (s.links.map encLnk)], .int .i64 a] [] (.bool (hasR a s.rules)) [] := by
  refine FnSpec.pure (.bool (hasR a s.rules)) (fun G w => .g (.bool _)) (fun G w args H hn ha => ?_)
  have g1 := Rep.inv_int (ha 1 _ rfl)
  obtain ⟨A0, A1, A2, c0, c1, c2, e, s0, s1, m0, m1⟩ := src_args H (ha 0 _ rfl)
  rw [sargs2 hn, g1, e]
  exact hasRule_t A0 A1 A2 _ _ c0 c1 c2 s.rules a w s0 m0
theorem zoneAt_s (s : Srce) (a : Int) : FnSpec Tryd.prog 38 [.agg [.sl false 9 (s.rules.map encRul), .sl false 3 (s.zones.map encZon), .sl false 2 (s.links.map encLnk)], .int .i64 a] [] (.int .i64 (posZ a s.zones 0)) [] := by
  refine FnSpec.pure (.int .i64 (posZ a s.zones 0)) (fun G w => .g (.int _ _)) (fun G w args H hn ha => ?_)
  have g1 := Rep.inv_int (ha 1 _ rfl)
  obtain ⟨A0, A1, A2, c0, c1, c2, e, s0, s1, m0, m1⟩ := src_args H (ha 0 _ rfl)
  rw [sargs2 hn, g1, e]
  exact zoneAt_t A0 A1 A2 _ _ c0 c1 c2 s.zones a w s1 m1
end Go.Proofs.YtahackghhalfeaaDoor.OnRd
end

section
set_option linter.unusedVariables false
set_option maxRecDepth 100000
namespace Go.Proofs.YtahackghhalfeaaDoor.OnRd
open Go Go.Sy Go.Proofs Go.RowKit Go.ChangeShapes Go.WideShapes
/-- What the rows list. -/
def laidL : List (String × DataW Unit) := [("math/bits.deBruijn32tab", Rows.laid_math_bits_deBruijn32tab), ("math/bits.deBruijn64tab", Rows.laid_math_bits_deBruijn64tab), ("internal/strconv.uint64pow10", Rows.laid_internal_strconv_uint64pow10)]
theorem g3 : Tryd.prog.globalNamed "internal/strconv.uint64pow10" = some 1 := by kernel_rfl
theorem tab10 : (Rows.laid_internal_strconv_uint64pow10 : DataW Unit) = Lib.tabData .u64 Lib.pow10Tab := by
  kernel_rfl
theorem gl_of {W : World} (hs : W.ShapedOpen Tryd.prog) (h : laidMetH Tryd.prog laidL W) : GB W := by
  rw [MakeChecks.laidMetH_plain _ _ _ (by kernel_rfl)] at h
  have h3 := h.tail.tail
  rw [tab10] at h3
  have tb : Lib.TabIs Tryd.prog W "internal/strconv.uint64pow10" .u64 Lib.pow10Tab := Lib.tabIs_of_head g3 (t := 110) (e := 103) (n := 20) (by kernel_rfl) Tryd.underlying110 Tryd.underlying103 (by kernel_rfl) (by kernel_rfl) h3
  have sz : 1 < W.heap.size := by
    have hv := tb
    unfold Lib.TabIs World.var? at hv
    rw [g3] at hv
    simp only [Option.bind_some] at hv
    apply Classical.byContradiction
    intro hn
    rw [Array.getElem?_eq_none (by omega)] at hv
    cases hv
  intro W' hb
  exact ⟨var?_below hb g3 sz tb⟩
/-- From a contract over worlds of the program's shape, with a condition more, to the row's wrap. -/
theorem handed_shaped {H : Type} {enc : TypeId × Value → H} {a : Assume} {C : Checked} {os : Os} {f : FuncId} {fn : Func} {s : ChangeSpec} {conds : List PathCond} {apart fresh handsOn again : Bool} {X : World → Array Value → Prop}
    (hX : ∀ (w w' : World) (args : Array Value), w.heap = w'.heap → X w args → X w' args)
    (own : ownKnob C.prog.godebug = none) (started : os.Started) (noInit : C.prog.inits.idxOf? f = none) (hfn : C.prog.funcs[f]? = some fn)
    (witness : ∃ (w : World) (tape : Tape) (i : Input), w.os = os ∧ (w.forCall tape i).Shaped C.prog ∧ i.vars = [] ∧ Input.okWide C.prog (w.forCall tape i) .any w.heap.size f i ∧
      ((s.pre enc C.prog fn conds apart (w.forCall tape i).memory i.args ∧ X (w.forCall tape i).memory i.args) ∧ sizedMet enc C.prog fn (OpenSpec.ofChange s) apart (w.forCall tape i).memory i.args) ∧ a.holds C.prog (lone (Frame.enter C.prog f i.args .normal) [] (w.forCall tape i)))
    (walk : ∀ (W : World) (base : Nat) (args : Array Value) (ds gs : List (DataW H)) (before : List MemPlace),
      (∀ (j : Nat) t v, fn.params[j]? = some t → args[j]? = some v → Value.okWide C.prog W .any base t v) →
      DataW.Whole enc C.prog fn.params.toList s.vars apart W args.toList ds gs before → X W args → W.ShapedOpen C.prog →
      Calls C.prog f args W fun e W' => ∃ v, e = .returned v ∧ s.post enc C.prog fn apart fresh handsOn again W args v W') :
    ReturnsInHanded a C os f .any (fun w args => (s.pre enc C.prog fn conds apart w args ∧ X w args) ∧ sizedMet enc C.prog fn (OpenSpec.ofChange s) apart w args) (s.post enc C.prog fn apart fresh handsOn again) := by
  refine returnsInHanded_of_calls own started noInit witness fun w tape i _ hsh _ hok hpre _ => ?_
  obtain ⟨_, _, _, fn', hfn', _, _, _, _, hval⟩ := hok
  obtain rfl : fn' = fn := Option.some.inj (hfn'.symm.trans hfn)
  obtain ⟨⟨⟨ds, gs, before, hw, _⟩, hx⟩, _⟩ := hpre
  refine (walk (w.forCall tape i) w.heap.size i.args ds gs before hval (DataW.Whole.of_heap (w' := w.forCall tape i) (by rfl) hw) (hX _ _ _ (by rfl) hx) hsh).mono ?_
  rintro e W' ⟨v, rfl, hp⟩
  exact ChangeSpec.post_blind hp
end Go.Proofs.YtahackghhalfeaaDoor.OnRd
end
