/- A parcel is filled from either end, twice: what each step answers. -/
import Derived.Test.YtdpcdcogbmkffaaSParcelPd
set_option linter.unusedVariables false
set_option linter.unusedSimpArgs false
namespace Go.Sy
def zPrc : Prc := ⟨0, ⟨#[]⟩, []⟩
def emptyN (n : Int) : List ByteArray := List.replicate (max (partsN n) 0).toNat ⟨#[]⟩
def newP (n : Int) (d : ByteArray) : Prc × Bool := if prcOk ⟨n, d, emptyN n⟩ then (⟨n, d, emptyN n⟩, true) else (zPrc, false)
def partS (s : ByteArray) (i : Int) : ByteArray × Bool := if inR i 0 (partsN s.size - 1) then (s.extract (i * 16).toNat (i * 16 + longI s.size i).toNat, true) else (⟨#[]⟩, false)
def putP (p : Prc) (i : Int) (t : ByteArray) : Prc × Int :=
  if prcOk p = true ∧ inR i 0 ((p.parts.length : Int) - 1) = true ∧ (t.size : Int) = longI p.size i then
    (if ((p.parts[i.toNat]?).getD ⟨#[]⟩).size = 0 then ({ p with parts := p.parts.set i.toNat t }, 0)
     else if ((p.parts[i.toNat]?).getD ⟨#[]⟩).toList = t.toList then (p, 2) else (p, 3))
  else (zPrc, 1)
theorem put_1 {p : Prc} {i : Int} {t : ByteArray} (h : ¬ (prcOk p = true ∧ inR i 0 ((p.parts.length : Int) - 1) = true ∧ (t.size : Int) = longI p.size i)) : putP p i t = (zPrc, 1) := by unfold putP; rw [if_neg h]
theorem put_0 {p : Prc} {i : Int} {t e : ByteArray} (h : prcOk p = true ∧ inR i 0 ((p.parts.length : Int) - 1) = true ∧ (t.size : Int) = longI p.size i) (he : p.parts[i.toNat]? = some e) (h0 : e.size = 0) : putP p i t = ({ p with parts := p.parts.set i.toNat t }, 0) := by
  unfold putP; rw [if_pos h, he]; exact if_pos h0
theorem put_2 {p : Prc} {i : Int} {t e : ByteArray} (h : prcOk p = true ∧ inR i 0 ((p.parts.length : Int) - 1) = true ∧ (t.size : Int) = longI p.size i) (he : p.parts[i.toNat]? = some e) (h0 : ¬ e.size = 0) (h1 : e.toList = t.toList) : putP p i t = (p, 2) := by
  unfold putP; rw [if_pos h, he]; exact (if_neg h0).trans (if_pos h1)
theorem put_3 {p : Prc} {i : Int} {t e : ByteArray} (h : prcOk p = true ∧ inR i 0 ((p.parts.length : Int) - 1) = true ∧ (t.size : Int) = longI p.size i) (he : p.parts[i.toNat]? = some e) (h0 : ¬ e.size = 0) (h1 : ¬ e.toList = t.toList) : putP p i t = (p, 3) := by
  unfold putP; rw [if_pos h, he]; exact (if_neg h0).trans (if_neg h1)
theorem put_1b {p : Prc} {i : Int} {t : ByteArray} (h : prcOk p = false) : putP p i t = (zPrc, 1) := put_1 (fun q => Bool.false_ne_true (h.symm.trans q.1))
theorem put_1c {p : Prc} {i : Int} {t : ByteArray} (h : inR i 0 ((p.parts.length : Int) - 1) = false) : putP p i t = (zPrc, 1) := put_1 (fun q => Bool.false_ne_true (h.symm.trans q.2.1))
theorem partS_no {s : ByteArray} {i : Int} (h : inR i 0 (partsN s.size - 1) = false) : partS s i = (⟨#[]⟩, false) := by unfold partS; exact if_neg (fun q => Bool.false_ne_true (h.symm.trans q))
theorem newP_yes {n : Int} {d : ByteArray} (h : prcOk ⟨n, d, List.replicate (max (partsN n) 0).toNat ⟨#[]⟩⟩ = true) : newP n d = (⟨n, d, List.replicate (max (partsN n) 0).toNat ⟨#[]⟩⟩, true) := by unfold newP; exact if_pos h
theorem newP_no {n : Int} {d : ByteArray} (h : prcOk ⟨n, d, List.replicate (max (partsN n) 0).toNat ⟨#[]⟩⟩ = false) : newP n d = (zPrc, false) := by unfold newP; exact if_neg (fun q => Bool.false_ne_true (h.symm.trans q))
def atF (code : List UInt8) (i : Int) : Int := if i < (code.length : Int) then ((code[i.toNat]?).getD 0).toNat else (i * 7 + (code.length : Int)) % 256
def pt (l : List UInt8) (j : Nat) : List UInt8 := (l.drop (16 * j)).take 16
theorem pt_len (l : List UInt8) (j : Nat) : (pt l j).length = min 16 (l.length - 16 * j) := by simp [pt]
def ptsN (l : List UInt8) : Nat := (l.length + 15) / 16
theorem pts_cat : ∀ (n : Nat) (l : List UInt8) (a : Nat), l.length ≤ 16 * (a + n) → catS ((List.range' a n).map fun j => strOf (pt l j)) = l.drop (16 * a)
  | 0, l, a, h => by rw [List.drop_of_length_le (by omega)]; rfl
  | n + 1, l, a, h => by
    rw [List.range'_succ, List.map_cons, catS, pts_cat n l (a + 1) (by omega), data_strOf, pt, show 16 * (a + 1) = 16 * a + 16 by omega, ← List.drop_drop, List.take_append_drop]
def fillF (a : Bool) (n k j : Nat) : Bool := if a then decide (n ≤ j + k) else decide (j < k)
def ixF (a : Bool) (n k : Nat) : Nat := if a then n - 1 - (if k < n then k else k - n) else (if k < n then k else k - n)
def stL (l : List UInt8) (a : Bool) (k : Nat) : List ByteArray := (List.range (ptsN l)).map fun j => if fillF a (ptsN l) k j then strOf (pt l j) else ⟨#[]⟩
def stP (l : List UInt8) (a : Bool) (k : Nat) : Prc := ⟨l.length, strOf (shaB l), stL l a k⟩
theorem stL_len (l : List UInt8) (a : Bool) (k : Nat) : (stL l a k).length = ptsN l := by simp [stL]
theorem stL_get {l : List UInt8} {a : Bool} {k j : Nat} (h : j < ptsN l) : (stL l a k)[j]? = some (if fillF a (ptsN l) k j then strOf (pt l j) else ⟨#[]⟩) := by
  unfold stL; rw [List.getElem?_map, List.getElem?_range h]; rfl
theorem okGo_all {n : Int} : ∀ {l : List ByteArray} {k : Nat}, (∀ (j : Nat) x, l[j]? = some x → x.size = 0 ∨ (x.size : Int) = longI n ((k + j : Nat) : Int)) → okGo n k l = true
  | [], _, _ => rfl
  | x :: l, k, h => by
    rw [okGo, Bool.and_eq_true]
    refine ⟨?_, okGo_all fun j y hy => ?_⟩
    · have := h 0 x rfl
      simp only [Nat.add_zero] at this
      simp only [Bool.or_eq_true, beq_iff_eq]
      rcases this with q | q
      · left; omega
      · right; exact q
    · have := h (j + 1) y hy
      rw [show k + (j + 1) = k + 1 + j by omega] at this
      exact this
theorem pt_long {l : List UInt8} {j : Nat} (h : j < ptsN l) : ((strOf (pt l j)).size : Int) = longI l.length j ∧ (strOf (pt l j)).size ≠ 0 := by
  rw [strOf_size, pt_len]
  unfold ptsN at h
  unfold longI
  omega
theorem pts_int {l : List UInt8} (h : l.length ≤ 1000) : partsN l.length = (ptsN l : Int) := by
  rw [(partsN_of (n := (l.length : Int)) (inR_iff.2 (by omega))).2.2]; unfold ptsN; omega
theorem st_ok {l : List UInt8} (h : l.length ≤ 1000) (a : Bool) (k : Nat) : prcOk (stP l a k) = true := by
  rw [prcOk_iff]
  refine ⟨inR_iff.2 (by show 0 ≤ (l.length : Int) ∧ (l.length : Int) ≤ 1000; omega), ?_, ?_, ?_⟩
  · show (((strOf (shaB l)).size : Nat) : Int) = 32
    rw [strOf_size, sha_len (by omega)]; rfl
  · show ((stL l a k).length : Int) = partsN l.length
    rw [stL_len, pts_int h]
  · refine okGo_all fun j x hx => ?_
    have hj : j < ptsN l := by have := (List.getElem?_eq_some_iff.1 hx).1; rw [show (stP l a k).parts = stL l a k from rfl, stL_len] at this; exact this
    rw [show (stP l a k).parts = stL l a k from rfl, stL_get hj] at hx
    obtain rfl := Option.some.inj hx
    by_cases q : fillF a (ptsN l) k j = true
    · rw [if_pos q]; right; rw [Nat.zero_add]; exact (pt_long hj).1
    · rw [if_neg q]; left; rfl
theorem ix_lt {a : Bool} {n k : Nat} (h : k < 2 * n) : ixF a n k < n := by unfold ixF; split <;> split <;> omega
theorem ix_new {a : Bool} {n k : Nat} (h : k < n) : fillF a n k (ixF a n k) = false := by
  unfold ixF fillF; rw [if_pos h]; cases a <;> simp <;> omega
theorem ix_old {a : Bool} {n k j : Nat} (h : n ≤ k) (hj : j < n) : fillF a n k j = true := by
  unfold fillF; cases a <;> simp <;> omega
theorem ix_fill {a : Bool} {n k : Nat} (h : k < n) : fillF a n (k + 1) (ixF a n k) = true := by
  unfold ixF fillF; rw [if_pos h]; cases a <;> simp <;> omega
theorem ix_other {a : Bool} {n k j : Nat} (h : k < n) (hj : j < n) (hne : j ≠ ixF a n k) : fillF a n (k + 1) j = fillF a n k j := by
  unfold ixF at hne; rw [if_pos h] at hne; unfold fillF
  cases a <;> simp at hne ⊢ <;> omega
theorem stL_set {l : List UInt8} {a : Bool} {k : Nat} (h : k < ptsN l) : (stL l a k).set (ixF a (ptsN l) k) (strOf (pt l (ixF a (ptsN l) k))) = stL l a (k + 1) := by
  apply List.ext_getElem?
  intro j
  by_cases hj : j < ptsN l
  case neg => rw [List.getElem?_eq_none (by rw [List.length_set, stL_len]; omega), List.getElem?_eq_none (by rw [stL_len]; omega)]
  rw [stL_get hj]
  by_cases q : j = ixF a (ptsN l) k
  · rw [q, List.getElem?_set, if_pos rfl, if_pos (by rw [stL_len, ← q]; exact hj), ix_fill h]; rfl
  · rw [List.getElem?_set_ne (by omega), stL_get hj, ix_other h hj q]
theorem stL_same {l : List UInt8} {a : Bool} {k : Nat} (h : ptsN l ≤ k) : stL l a k = stL l a (k + 1) := by
  apply List.ext_getElem?
  intro j
  by_cases hj : j < ptsN l
  case neg => rw [List.getElem?_eq_none (by rw [stL_len]; omega), List.getElem?_eq_none (by rw [stL_len]; omega)]
  rw [stL_get hj, stL_get hj, ix_old h hj, ix_old (by omega) hj]
theorem extract_strOf {s : ByteArray} {a b : Nat} : s.extract a b = strOf ((s.data.toList.drop a).take (b - a)) := by
  apply ByteArray.ext
  rw [ByteArray.data_extract]
  apply Array.ext'
  rw [Array.toList_extract]
  simp [strOf, List.extract]
theorem part_of {s : ByteArray} {i : Int} {j : Nat} (hs : s.size ≤ 1000) (hi : i = (j : Int)) (hj : j < ptsN s.data.toList) : partS s i = (strOf (pt s.data.toList j), true) := by
  have hl : s.data.toList.length = s.size := Array.length_toList
  have hp := pts_int (l := s.data.toList) (by omega)
  have hlg := pt_long hj
  rw [strOf_size, pt_len] at hlg
  rw [hl] at hp hlg
  subst hi
  unfold partS
  rw [if_pos (inR_iff.2 (by rw [hp]; omega)), extract_strOf]
  congr 2
  have e1 : ((j : Int) * 16).toNat = 16 * j := by omega
  rw [e1]
  unfold pt
  apply List.take_eq_take_iff.2
  rw [List.length_drop, hl]
  omega
theorem par_step {s : ByteArray} {a : Bool} {k : Nat} {i : Int} {p : Prc} (hs : s.size ≤ 1000) (hp : p = stP s.data.toList a k) (hk : k < 2 * ptsN s.data.toList) (hi : i = (ixF a (ptsN s.data.toList) k : Int)) :
    (partS s i).2 = true ∧ (partS s i).1.size ≠ 0 ∧ (partS s i).1.size ≤ 16 ∧ (putP p i (partS s i).1).1 = stP s.data.toList a (k + 1) ∧ (k < ptsN s.data.toList → (putP p i (partS s i).1).2 = 0) ∧ (ptsN s.data.toList ≤ k → (putP p i (partS s i).1).2 = 2) ∧
    ∀ t : ByteArray, t.size = (partS s i).1.size → t.toList ≠ (partS s i).1.toList → (putP (putP p i (partS s i).1).1 i t).2 = 3 := by
  have hj := ix_lt (a := a) hk
  have hl : s.data.toList.length = s.size := Array.length_toList
  have hp1 := part_of hs hi hj
  have hlong := pt_long hj
  rw [hp1]
  have hok : ∀ k', prcOk (stP s.data.toList a k') = true := fun k' => st_ok (by omega) a k'
  have hin : ∀ k', inR i 0 (((stP s.data.toList a k').parts.length : Int) - 1) = true := fun k' => by
    rw [show (stP s.data.toList a k').parts = stL s.data.toList a k' from rfl, stL_len, inR_iff]; omega
  have hsz : ∀ k', ((strOf (pt s.data.toList (ixF a (ptsN s.data.toList) k))).size : Int) = longI (stP s.data.toList a k').size i := fun k' => by rw [hi]; exact hlong.1
  have hput : putP p i (strOf (pt s.data.toList (ixF a (ptsN s.data.toList) k))) = (stP s.data.toList a (k + 1), if k < ptsN s.data.toList then 0 else 2) := by
    subst hp
    by_cases hn : k < ptsN s.data.toList
    · rw [put_0 (e := ⟨#[]⟩) ⟨hok k, hin k, hsz k⟩ (by rw [hi]; show (stL s.data.toList a k)[_]? = _; rw [Int.toNat_natCast, stL_get hj, ix_new hn]; rfl) rfl, if_pos hn, hi, Int.toNat_natCast]
      show (({ stP s.data.toList a k with parts := (stL s.data.toList a k).set _ _ } : Prc), (0 : Int)) = _
      rw [stL_set hn]; rfl
    · rw [put_2 (e := strOf (pt s.data.toList (ixF a (ptsN s.data.toList) k))) ⟨hok k, hin k, hsz k⟩ (by rw [hi]; show (stL s.data.toList a k)[_]? = _; rw [Int.toNat_natCast, stL_get hj, ix_old (by omega) hj]; rfl) hlong.2 rfl, if_neg hn]
      unfold stP; rw [stL_same (by omega)]
  refine ⟨rfl, hlong.2, ?_, by rw [hput], fun h => by rw [hput]; exact if_pos h, fun h => by rw [hput]; exact if_neg (by omega), fun t ht hne => ?_⟩
  · show (strOf _).size ≤ 16
    rw [strOf_size, pt_len]; omega
  · rw [hput]
    rw [put_3 (e := strOf (pt s.data.toList (ixF a (ptsN s.data.toList) k))) ⟨hok _, hin _, by rw [ht]; exact hsz _⟩ (by rw [hi]; show (stL s.data.toList a (k + 1))[_]? = _; rw [Int.toNat_natCast, stL_get hj]; rw [if_pos (by by_cases hn : k < ptsN s.data.toList; exact ix_fill hn; exact ix_old (by omega) hj)]) hlong.2 (fun e => hne e.symm)]
theorem par_end {s : ByteArray} {a : Bool} {k : Nat} {p : Prc} (hs : s.size ≤ 1000) (hp : p = stP s.data.toList a k) (hk : 2 * ptsN s.data.toList ≤ k) : wholeP p = (s, 0) ∧ lacksI p = [] := by
  have hl : s.data.toList.length = s.size := Array.length_toList
  have hok := st_ok (l := s.data.toList) (by omega) a k
  have hfull : ∀ (j : Nat) x, (stL s.data.toList a k)[j]? = some x → x = strOf (pt s.data.toList j) ∧ j < ptsN s.data.toList := by
    intro j x hx
    have hj : j < ptsN s.data.toList := by have := (List.getElem?_eq_some_iff.1 hx).1; rwa [stL_len] at this
    rw [stL_get hj, ix_old (by omega) hj] at hx
    exact ⟨(Option.some.inj hx).symm, hj⟩
  have hcat : catS (stL s.data.toList a k) = s.data.toList := by
    have e : stL s.data.toList a k = (List.range' 0 (ptsN s.data.toList)).map fun j => strOf (pt s.data.toList j) := by
      unfold stL
      rw [List.range_eq_range']
      apply List.map_congr_left
      intro j hj
      have : j < ptsN s.data.toList := by have := List.mem_range'.1 hj; omega
      rw [ix_old (by omega) this]; rfl
    rw [e, pts_cat _ _ _ (by unfold ptsN; omega)]; rfl
  have hno : ¬ 0 < (lackGo 0 (stP s.data.toList a k).parts).length := lack_none fun j x hx => by
    obtain ⟨e, hj⟩ := hfull j x hx
    rw [e]; exact (pt_long hj).2
  subst hp
  refine ⟨?_, ?_⟩
  · rw [whole_0 hok hno (by show (strOf (shaB (catS (stL s.data.toList a k)))).toList = (strOf (shaB s.data.toList)).toList; rw [hcat])]
    show (strOf (catS (stL s.data.toList a k)), (0 : Int)) = _
    rw [hcat, strOf_data]
  · unfold lacksI; rw [if_pos hok]
    exact List.length_eq_zero_iff.1 (by omega)
theorem par_start {s d : ByteArray} {a : Bool} (hs : s.size ≤ 1000) (hd : d = strOf (shaB s.data.toList)) : newP s.size d = (stP s.data.toList a 0, true) ∧ ((lacksI (newP s.size d).1).length : Int) = partsN s.size := by
  have hl : s.data.toList.length = s.size := Array.length_toList
  have hpi := pts_int (l := s.data.toList) (by omega)
  have he : emptyN s.size = stL s.data.toList a 0 := by
    unfold emptyN
    rw [← hl, hpi]
    apply List.ext_getElem?
    intro j
    by_cases hj : j < ptsN s.data.toList
    · rw [stL_get hj, List.getElem?_replicate, if_pos (by omega)]
      have : fillF a (ptsN s.data.toList) 0 j = false := by unfold fillF; cases a <;> simp <;> omega
      rw [this]; rfl
    · rw [List.getElem?_eq_none (by simp; omega), List.getElem?_eq_none (by rw [stL_len]; omega)]
  have hst : (⟨s.size, d, emptyN s.size⟩ : Prc) = stP s.data.toList a 0 := by rw [he, hd]; unfold stP; rw [hl]
  have hok := st_ok (l := s.data.toList) (by omega) a 0
  have hn : newP s.size d = (stP s.data.toList a 0, true) := by unfold newP; rw [hst, if_pos hok]
  refine ⟨hn, ?_⟩
  rw [hn]
  show ((lacksI (stP s.data.toList a 0)).length : Int) = _
  unfold lacksI; rw [if_pos hok]
  have hall : ∀ (l : List ByteArray) (k : Nat), (∀ x ∈ l, x.size = 0) → (lackGo k l).length = l.length := by
    intro l
    induction l with
    | nil => intro k _; rfl
    | cons y l ih =>
      intro k h
      rw [lackGo, if_pos (h y List.mem_cons_self), List.length_cons, List.length_cons, ih _ (fun x hx => h x (List.mem_cons_of_mem _ hx))]
  rw [hall _ _ (fun x hx => ?_)]
  · show ((stL s.data.toList a 0).length : Int) = _
    rw [stL_len, ← hl, hpi]
  · have hx' : x ∈ stL s.data.toList a 0 := hx
    rw [← he] at hx'
    rw [(List.mem_replicate.1 hx').2]; rfl
theorem ix_int {a : Bool} {n k : Nat} (hk : k < 2 * n) : (a = false → (k : Int) % (n : Int) = (ixF a n k : Int)) ∧ (a = true → (n : Int) - 1 - (k : Int) % (n : Int) = (ixF a n k : Int)) := by
  have e : (k : Int) % (n : Int) = ((if k < n then k else k - n : Nat) : Int) := by
    rw [← Int.natCast_emod]
    congr 1
    by_cases h : k < n
    · rw [if_pos h, Nat.mod_eq_of_lt h]
    · rw [if_neg h, Nat.mod_eq_sub_mod (by omega), Nat.mod_eq_of_lt (by omega)]
  rw [e]
  unfold ixF
  refine ⟨fun h => by rw [h]; rfl, fun h => ?_⟩
  rw [h]
  simp only [if_true]
  split <;> omega
end Go.Sy

