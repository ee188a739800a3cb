/- What is packed is read as it was. -/
import Derived.Test.YthjmbojkpkbedaaSMsgMf
set_option linter.unusedVariables false
set_option linter.unusedSimpArgs false
namespace Go.Sy
def Pk (b : List UInt8) (a : Int) (x rest : List UInt8) : Prop := 0 ≤ a ∧ a ≤ b.length ∧ b.drop a.toNat = x ++ rest
theorem Pk.fst {b x y rest : List UInt8} {a : Int} (h : Pk b a (x ++ y) rest) : Pk b a x (y ++ rest) := ⟨h.1, h.2.1, by rw [h.2.2, List.append_assoc]⟩
theorem Pk.le {b x rest : List UInt8} {a : Int} (h : Pk b a x rest) : a + (x.length : Int) ≤ b.length := by
  have := congrArg List.length h.2.2
  rw [List.length_drop, List.length_append] at this
  have := h.1
  have := h.2.1
  omega
theorem Pk.snd {b x y rest : List UInt8} {a : Int} (h : Pk b a (x ++ y) rest) : Pk b (a + (x.length : Int)) y rest := by
  have h1 := h.fst.le
  refine ⟨by have := h.1; omega, h1, ?_⟩
  rw [show (a + (x.length : Int)).toNat = a.toNat + x.length from by have := h.1; omega, ← List.drop_drop, h.2.2, List.append_assoc, List.drop_left]
theorem num_pk {b rest : List UInt8} {a x : Int} (h : Pk b a (putI x) rest) (h0 : 0 ≤ x) (h1 : x ≤ 4611686018427387904) : getN b a = (x, a + ((putI x).length : Int), true) := getN_put h.1 h0 h1 h.2.2
theorem str_eta (s : ByteArray) : strOf s.data.toList = s := rfl
theorem sub_pk {b rest : List UInt8} {a : Int} {s : ByteArray} (h : Pk b a s.data.toList rest) : subB b a s.size = s := by
  unfold subB
  rw [h.2.2, show ((s.size : Int)).toNat = s.data.toList.length from by rw [Array.length_toList]; rfl, List.take_left, str_eta]
theorem text_pk {b rest : List UInt8} {a : Int} {s : ByteArray} (hs : ¬ (s.size : Int) > 3000) (h : Pk b a (putT s) rest) : textS b a = (s, a + ((putT s).length : Int), true) := by
  rw [putT_yes hs] at h ⊢
  have h1 := num_pk h.fst (by omega) (by omega)
  have h2 := h.snd
  have hl : s.data.toList.length = s.size := Array.length_toList
  have h3 := h2.le
  unfold textS
  rw [h1]
  simp only
  rw [if_neg (by simp; omega), sub_pk h2, List.length_append, hl]
  congr 2
  omega
theorem cmdB_eq (c : Cmd) : cmdB c = putI c.kind ++ (if c.kind = 1 then [] else putI c.release ++ (if c.kind = 3 then putI c.node else if c.kind = 2 then putI c.size ++ c.digest.data.toList else [])) := rfl
theorem noBytes3 {b : ByteArray} (h : b.size = 0) : b = ⟨#[]⟩ := by
  cases b with
  | mk d =>
    have : d.size = 0 := h
    rw [Array.eq_empty_of_size_eq_zero this]
theorem cmdOk_cases {c : Cmd} (h : cmdOk c = true) : (c.kind = 1 ∧ c = ⟨1, 0, 0, 0, ⟨#[]⟩⟩) ∨ (c.kind = 2 ∧ c = ⟨2, c.release, 0, c.size, c.digest⟩ ∧ c.digest.size = 32) ∨ (c.kind = 3 ∧ c = ⟨3, c.release, c.node, 0, ⟨#[]⟩⟩) ∨ (¬ c.kind = 1 ∧ ¬ c.kind = 2 ∧ ¬ c.kind = 3 ∧ c = ⟨c.kind, c.release, 0, 0, ⟨#[]⟩⟩) := by
  obtain ⟨k, r, n, z, d⟩ := c
  unfold cmdOk at h
  simp only at h
  split at h
  · rename_i hk
    simp only [Bool.and_eq_true, beq_iff_eq, noBytes2] at h
    left
    obtain ⟨⟨⟨h1, h2⟩, h3⟩, h4⟩ := h
    rw [hk, h1, h2, h3, noBytes3 h4]
    exact ⟨rfl, rfl⟩
  · rename_i hk1
    split at h
    · rename_i hk
      simp only [Bool.and_eq_true, beq_iff_eq] at h
      right; left
      obtain ⟨⟨⟨h1, h2⟩, h3⟩, h4⟩ := h
      rw [hk, h4]
      exact ⟨rfl, rfl, h3⟩
    · rename_i hk2
      split at h
      · rename_i hk
        simp only [Bool.and_eq_true, beq_iff_eq, noBytes2] at h
        right; right; left
        obtain ⟨⟨⟨h1, h2⟩, h3⟩, h4⟩ := h
        rw [hk, h3, noBytes3 h4]
        exact ⟨rfl, rfl⟩
      · rename_i hk3
        simp only [Bool.and_eq_true, beq_iff_eq, noBytes2] at h
        right; right; right
        obtain ⟨⟨⟨⟨h0, h1⟩, h2⟩, h3⟩, h4⟩ := h
        rw [h2, h3, noBytes3 h4]
        exact ⟨hk1, hk2, hk3, rfl⟩
theorem cmd_pk {b rest : List UInt8} {a : Int} {c : Cmd} (hok : cmdOk c = true) (h : Pk b a (cmdB c) rest) : cmdS b a = (c, a + ((cmdB c).length : Int), true) := by
  have hin := cmdOk_in hok
  rw [cmdB_eq] at h
  have h1 := num_pk h.fst (by omega) (by omega)
  have hr := inR_iff.2 hin.1
  unfold cmdS
  rw [h1]
  simp only
  rw [if_neg (by simp [hr])]
  rcases cmdOk_cases hok with ⟨k, e⟩ | ⟨k, e, hd⟩ | ⟨k, e⟩ | ⟨k1, k2, k3, e⟩
  · rw [if_pos k, cmdB_eq, if_pos k, List.append_nil]
    rw [e]
  · have n1 : ¬ c.kind = 1 := by omega
    have n3 : ¬ c.kind = 3 := by omega
    rw [if_neg n1, if_neg n3, if_pos k] at h
    have h2 := num_pk h.snd.fst (by omega) (by omega)
    have h3 := num_pk h.snd.snd.fst (by omega) (by omega)
    have h4 := h.snd.snd.snd
    have h5 := h4.le
    have hl : c.digest.data.toList.length = c.digest.size := Array.length_toList
    have e0 : cmdS0 b a = (c, a + ((cmdB c).length : Int), true) := by
      unfold cmdS0
      simp only [h1, h2, h3]
      rw [if_neg (by simp), if_neg n3, if_pos k, if_pos ⟨trivial, by omega⟩]
      have hs := sub_pk h4
      rw [hd] at hs
      rw [show ((32 : Nat) : Int) = 32 from rfl] at hs
      rw [hs, cmdB_eq, if_neg n1, if_neg n3, if_pos k]
      refine Prod.ext ?_ (Prod.ext ?_ rfl)
      · show (⟨c.kind, c.release, 0, c.size, c.digest⟩ : Cmd) = c
        rw [k]; exact e.symm
      · simp only [List.length_append, hl, hd]
        omega
    rw [if_neg n1, e0, if_neg (by simp [hok])]
  · have n1 : ¬ c.kind = 1 := by omega
    rw [if_neg n1, if_pos k] at h
    have h2 := num_pk h.snd.fst (by omega) (by omega)
    have h3 := num_pk h.snd.snd (by omega) (by omega)
    have e0 : cmdS0 b a = (c, a + ((cmdB c).length : Int), true) := by
      unfold cmdS0
      simp only [h1, h2, h3]
      rw [if_neg (by simp), if_pos k, cmdB_eq, if_neg n1, if_pos k]
      refine Prod.ext ?_ (Prod.ext ?_ rfl)
      · show (⟨c.kind, c.release, c.node, 0, ⟨#[]⟩⟩ : Cmd) = c
        rw [k]; exact e.symm
      · simp only [List.length_append]
        omega
    rw [if_neg n1, e0, if_neg (by simp [hok])]
  · rw [if_neg k1, if_neg k3, if_neg k2, List.append_nil] at h
    have h2 := num_pk h.snd (by omega) (by omega)
    have e0 : cmdS0 b a = (c, a + ((cmdB c).length : Int), true) := by
      unfold cmdS0
      simp only [h1, h2]
      rw [if_neg (by simp), if_neg k3, if_neg k2, cmdB_eq, if_neg k1, if_neg k3, if_neg k2, List.append_nil]
      refine Prod.ext ?_ (Prod.ext ?_ rfl)
      · exact e.symm
      · simp only [List.length_append]
        omega
    rw [if_neg k1, e0, if_neg (by simp [hok])]
theorem entsGo_pk {b : List UInt8} : ∀ (l : List Ent) {a : Int} {rest : List UInt8} (acc : List Ent), entsOk l = true → Pk b a (entsB l) rest → entsSGo b l.length a acc = (acc ++ l, a + ((entsB l).length : Int), true)
  | [], a, rest, acc, _, h => by simp [entsSGo, entsB]
  | e :: l, a, rest, acc, hok, h => by
    rw [entsOk, Bool.and_eq_true] at hok
    have hn := entOk_nums hok.1
    have h' := h
    rw [entsB] at h'
    have h1 := num_pk h'.fst (by omega) (by omega)
    have h2 := h'.snd.fst
    rw [cmdP_yes hn.2.2] at h2
    have h3 := cmd_pk hn.2.2 h2
    have h4 := h'.snd.snd
    rw [cmdP_yes hn.2.2] at h4
    rw [List.length_cons, entsSGo, h1]
    simp only
    rw [if_neg (by simp), h3]
    simp only
    rw [if_neg (by simp), entsGo_pk l _ hok.2 h4, entsB, cmdP_yes hn.2.2, List.length_append, List.length_append, List.append_assoc]
    refine Prod.ext rfl (Prod.ext ?_ rfl)
    simp only
    omega
theorem ents_pk {b rest : List UInt8} {a : Int} {l : List Ent} (hok : entsOk l = true) (hl : l.length ≤ 6) (h : Pk b a (packE l) rest) : entsS b a = (l, a + ((packE l).length : Int), true) := by
  have h' := h
  unfold packE at h'
  have h1 := num_pk h'.fst (by omega) (by omega)
  unfold entsS
  rw [h1]
  simp only
  rw [if_neg (by simp; omega), show ((l.length : Int)).toNat = l.length from by omega, entsGo_pk l [] hok h'.snd, packE, List.length_append, List.nil_append]
  refine Prod.ext rfl (Prod.ext ?_ rfl)
  simp only
  omega
structure PkM (m : Msg) : Prop where
  p : Packs m
  from_ : 0 ≤ m.from_
  term : 0 ≤ m.term
  at_ : 0 ≤ m.at_
  atTerm : 0 ≤ m.atTerm
  commit : 0 ≤ m.commit
  release : 0 ≤ m.release
  part : 0 ≤ m.part
  bytes : ¬ (m.bytes.size : Int) > 3000
  ents : entsOk m.entries = true
  few : m.entries.length ≤ 6
def setF (M m : Msg) (f : Int) : Msg :=
  if f = 98 then { m with bytes := M.bytes } else if f = 100 then { m with cmd := M.cmd } else if f = 101 then { m with entries := M.entries } else if f = 102 then { m with from_ := M.from_ }
  else if f = 116 then { m with term := M.term } else if f = 97 then { m with at_ := M.at_ } else if f = 115 then { m with atTerm := M.atTerm } else if f = 99 then { m with commit := M.commit }
  else if f = 114 then { m with release := M.release } else if f = 112 then { m with part := M.part } else if f = 121 then { m with yes := M.yes } else m
theorem field_pk {b rest : List UInt8} {a : Int} {M : Msg} (hM : PkM M) (m : Msg) {c : UInt8} (hc : Letter c) (hd : c = 100 → cmdOk M.cmd = true) (h : Pk b a (fByteS M c.toNat) rest) : fieldS m c.toNat b a = (setF M m c.toNat, a + ((fByteS M c.toNat).length : Int), true) := by
  obtain ⟨⟨b1, b2, b3, b4, b5, b6, b7, b8, b9⟩, c1, c2, c3, c4, c5, c6, c7, c8, c9, c10⟩ := hM
  rcases hc with e | e | e | e | e | e | e | e | e | e | e <;> subst e
  · have q := num_pk (x := M.from_) h (by omega) (by omega)
    show ({ m with from_ := (getN b a).1 }, (getN b a).2.1, (getN b a).2.2) = _
    rw [q]; rfl
  · have q := num_pk (x := M.term) h (by omega) (by omega)
    show ({ m with term := (getN b a).1 }, (getN b a).2.1, (getN b a).2.2) = _
    rw [q]; rfl
  · have q := num_pk (x := M.at_) h (by omega) (by omega)
    show ({ m with at_ := (getN b a).1 }, (getN b a).2.1, (getN b a).2.2) = _
    rw [q]; rfl
  · have q := num_pk (x := M.atTerm) h (by omega) (by omega)
    show ({ m with atTerm := (getN b a).1 }, (getN b a).2.1, (getN b a).2.2) = _
    rw [q]; rfl
  · have q := num_pk (x := M.commit) h (by omega) (by omega)
    show ({ m with commit := (getN b a).1 }, (getN b a).2.1, (getN b a).2.2) = _
    rw [q]; rfl
  · have h' : Pk b a (if M.yes = true then [1] else [0]) rest := h
    show ({ m with yes := (getN b a).1 == 1 }, (getN b a).2.1, (getN b a).2.2 && decide ((getN b a).1 < 2)) = ({ m with yes := M.yes }, a + (((if M.yes = true then [1] else [0]) : List UInt8).length : Int), true)
    cases hy : M.yes with
    | true =>
      rw [hy] at h'
      have q := num_pk (x := 1) (by rw [putI_one]; exact h') (by omega) (by omega)
      rw [q, putI_one]; rfl
    | false =>
      rw [hy] at h'
      have q := num_pk (x := 0) (by rw [putI_zero]; exact h') (by omega) (by omega)
      rw [q, putI_zero]; rfl
  · have q := num_pk (x := M.release) h (by omega) (by omega)
    show ({ m with release := (getN b a).1 }, (getN b a).2.1, (getN b a).2.2) = _
    rw [q]; rfl
  · have q := num_pk (x := M.part) h (by omega) (by omega)
    show ({ m with part := (getN b a).1 }, (getN b a).2.1, (getN b a).2.2) = _
    rw [q]; rfl
  · have q := text_pk (s := M.bytes) c8 h
    show ({ m with bytes := (textS b a).1 }, (textS b a).2.1, (textS b a).2.2) = _
    rw [q]; rfl
  · have hk := hd rfl
    have h' : Pk b a (cmdP M.cmd) rest := h
    rw [cmdP_yes hk] at h'
    have q := cmd_pk hk h'
    show ({ m with cmd := (cmdS b a).1 }, (cmdS b a).2.1, (cmdS b a).2.2) = ({ m with cmd := M.cmd }, a + ((cmdP M.cmd).length : Int), true)
    rw [q, cmdP_yes hk]
  · have q := ents_pk (l := M.entries) c9 c10 h
    show ({ m with entries := (entsS b a).1 }, (entsS b a).2.1, (entsS b a).2.2) = _
    rw [q]; rfl
theorem fields_pk {b rest : List UInt8} {M : Msg} (hM : PkM M) : ∀ (l : List UInt8) (m : Msg) {a : Int}, (∀ c ∈ l, Letter c) → (100 ∈ l → cmdOk M.cmd = true) → Pk b a (fAllS M l) rest → fieldsS b l m a = some (l.foldl (fun m c => setF M m c.toNat) m, a + ((fAllS M l).length : Int))
  | [], m, a, _, _, h => by simp [fieldsS, fAllS]
  | c :: l, m, a, hc, hd, h => by
    rw [fAllS] at h
    have h1 := field_pk hM m (hc c (by simp)) (fun e => hd (by simp [e])) h.fst
    rw [fieldsS, h1]
    simp only
    rw [if_neg (by simp), fields_pk hM l _ (fun x hx => hc x (by simp [hx])) (fun hx => hd (by simp [hx])) h.snd, fAllS, List.foldl_cons, List.length_append]
    congr 2
    omega
end Go.Sy

