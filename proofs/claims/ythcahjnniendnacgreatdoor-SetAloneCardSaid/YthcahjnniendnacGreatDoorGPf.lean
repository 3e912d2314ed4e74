/-
  Pset, Pfac.
-/
import Derived.Test.YthcahjnniendnacGreatDoorGPh
import Derived.Test.YthcahjnniendnacGreatDoorGPl
import Derived.Test.YthcahjnniendnacGreatDoorGPy
/-
  Plain: sets of patterns: added, removed, scanned; what is not tried would not be found.
-/
namespace Wf

/-- What reading a whole text comes to: what is wrong, the place, the pattern. -/
def parseE (s : ByteArray) : Int × Nat × Option Rx :=
  if 200 < s.size then (3, 0, none) else match orS s.data.toList 0 with
  | .bad k => (5, k, none)
  | .ok t j => if j = s.size then (if (flat t).length ≤ 60 then (0, 0, some t) else (3, 0, none)) else (5, j, none)
theorem parseE_zero {s : ByteArray} : (parseE s).1 = 0 ↔ ∃ t, (parseE s).2.2 = some t := by
  unfold parseE
  split
  · simp
  · split
    · simp
    · split
      · split <;> simp
      · simp
theorem parseE_some {s : ByteArray} {t : Rx} (h : (parseE s).2.2 = some t) : s.size ≤ 200 ∧ orS s.data.toList 0 = .ok t s.size ∧ (flat t).length ≤ 60 ∧ okT t ∧ parseE s = (0, 0, some t) := by
  have hsz : s.data.toList.length = s.size := by simp
  unfold parseE at h ⊢
  split at h
  · cases h
  · rename_i hs
    rw [if_neg hs]
    cases hr : orS s.data.toList 0 with
    | bad k => rw [hr] at h; cases h
    | ok u j =>
      rw [hr] at h
      dsimp only at h ⊢
      split at h
      · rename_i hj
        split at h
        · rename_i hf
          cases h
          obtain ⟨_, _, hok, _⟩ := (read_ok (s := s.data.toList) _ 0 (Nat.le_refl _) (Nat.zero_le _)).2.2 _ _ hr
          exact ⟨by omega, by rw [hj], hf, hok, by rw [if_pos hj, if_pos hf]⟩
        · cases h
      · cases h

/-- A pattern of a set: its number, its text, its tree. -/
structure Mb where
  id : Nat
  text : ByteArray
  t : Rx
/-- A set. -/
structure SS where
  ms : List Mb
  last : Nat
  on : Bool
  tried : Nat
def SS.zero : SS := ⟨[], 0, false, 0⟩
/-- A pattern is added: the number, the place, what is wrong. -/
def SS.added (m : SS) (s : ByteArray) : Nat × Nat × Int :=
  if (parseE s).1 ≠ 0 then (0, (parseE s).2.1, (parseE s).1) else if m.ms.length < 12 then (m.last + 1, 0, 0) else (0, 0, 3)
def SS.add (m : SS) (s : ByteArray) : SS :=
  match (parseE s).2.2 with
  | none => m
  | some t => if m.ms.length < 12 then { m with ms := m.ms ++ [⟨m.last + 1, s, t⟩], last := m.last + 1 } else m
/-- The place of a number. -/
def SS.place (m : SS) (id : Int) : Option Nat := m.ms.findIdx? fun x => decide ((x.id : Int) = id)
def SS.removed (m : SS) (id : Int) : Int := match m.place id with | none => 4 | some _ => 0
def SS.remove (m : SS) (id : Int) : SS := match m.place id with | none => m | some k => { m with ms := m.ms.eraseIdx k }
/-- Does a pattern's need stand in a text? -/
def stands (n s : List UInt8) : Bool := (List.range (s.length + 1)).any fun i => n.isPrefixOf (s.drop i)
/-- Which are tried. -/
def SS.tries (m : SS) (s : List UInt8) : List Mb := m.ms.filter fun x => !m.on || stands (litL x.t).1 s
/-- What a scan tells. -/
noncomputable def hitsOf (s : List UInt8) (x : Mb) : List (Nat × Nat × Nat) := (spansO s x.t 0).map fun p => (x.id, p.1, p.2)
noncomputable def SS.hits (m : SS) (s : List UInt8) : List (Nat × Nat × Nat) := m.ms.flatMap (hitsOf s)
def SS.scan (m : SS) (s : List UInt8) : SS := if s.length ≤ 400 then { m with tried := (m.tries s).length } else m

theorem stands_iff {n s : List UInt8} : stands n s = true ↔ ∃ p q, s = p ++ n ++ q := by
  unfold stands
  rw [List.any_eq_true]
  constructor
  · rintro ⟨i, hi, h⟩
    obtain ⟨q, hq⟩ := List.isPrefixOf_iff_prefix.1 h
    exact ⟨s.take i, q, by rw [List.append_assoc, hq, List.take_append_drop]⟩
  · rintro ⟨p, q, rfl⟩
    refine ⟨p.length, by simp; omega, List.isPrefixOf_iff_prefix.2 ⟨q, ?_⟩⟩
    rw [List.append_assoc, List.drop_left]
/-- What is not tried would not be found. -/
theorem not_tried {s : List UInt8} {t : Rx} (h : stands (litL t).1 s = false) : spansO s t 0 = [] := by
  have hf : foundO s t 0 = none := by
    rw [found_none]
    intro i j hi hj hf
    obtain ⟨⟨p, q, hpq⟩, _⟩ := fits_lit s t i j hf hi
    have : stands (litL t).1 s = true := stands_iff.2 ⟨s.take i ++ p, q ++ s.drop (max i j), by
      have hb := (fits_bound s t i j hf hi).1
      rw [Nat.max_eq_right hb]
      unfold sub at hpq
      have e : s = s.take i ++ ((s.drop i).take (j - i) ++ s.drop j) := by
        conv => lhs; rw [← List.take_append_drop i s]
        congr 1
        conv => lhs; rw [← List.take_append_drop (j - i) (s.drop i)]
        rw [List.drop_drop, Nat.add_sub_cancel' hb]
      conv => lhs; rw [e, hpq]
      simp⟩
    rw [this] at h; cases h
  exact allO_none hf
theorem hits_tries (m : SS) (s : List UInt8) : (m.tries s).flatMap (hitsOf s) = m.hits s := by
  unfold SS.tries SS.hits
  induction m.ms with
  | nil => rfl
  | cons x r ih =>
    rw [List.filter_cons]
    split
    · rw [List.flatMap_cons, List.flatMap_cons, ih]
    · rename_i h
      have : stands (litL x.t).1 s = false := by cases hs : stands (litL x.t).1 s <;> simp_all
      rw [List.flatMap_cons, ih]
      unfold hitsOf
      rw [not_tried this]
      rfl

/-- A set as it comes to be. -/
structure SS.ok (m : SS) : Prop where
  len : m.ms.length ≤ 12
  up : m.ms.Pairwise fun x y => x.id < y.id
  pos : ∀ x ∈ m.ms, 1 ≤ x.id ∧ x.id ≤ m.last
  read : ∀ x ∈ m.ms, (parseE x.text).2.2 = some x.t
theorem SS.ok_zero : SS.zero.ok := ⟨by simp [SS.zero], by simp [SS.zero], fun x h => (by cases h), fun x h => (by cases h)⟩
theorem SS.ok.add {m : SS} (h : m.ok) (s : ByteArray) : (m.add s).ok := by
  unfold SS.add
  split
  · exact h
  · rename_i t ht
    split
    · rename_i hl
      refine ⟨by simp; omega, ?_, ?_, ?_⟩
      · rw [List.pairwise_append]
        refine ⟨h.up, by simp, fun x hx y hy => ?_⟩
        rw [List.mem_singleton.1 hy]
        have := (h.pos x hx).2
        show x.id < m.last + 1
        omega
      · intro x hx
        rcases List.mem_append.1 hx with hx | hx
        · have := h.pos x hx
          exact ⟨this.1, by show x.id ≤ m.last + 1; omega⟩
        · rw [List.mem_singleton.1 hx]
          exact ⟨by show 1 ≤ m.last + 1; omega, Nat.le_refl _⟩
      · intro x hx
        rcases List.mem_append.1 hx with hx | hx
        · exact h.read x hx
        · rw [List.mem_singleton.1 hx]; exact ht
    · exact h
theorem SS.ok.remove {m : SS} (h : m.ok) (id : Int) : (m.remove id).ok := by
  unfold SS.remove
  split
  · exact h
  · rename_i k _
    have hsub := List.eraseIdx_sublist m.ms k
    exact ⟨Nat.le_trans hsub.length_le h.len, h.up.sublist hsub, fun x hx => h.pos x (hsub.subset hx), fun x hx => h.read x (hsub.subset hx)⟩
theorem SS.ok.tried {m : SS} (h : m.ok) (on : Bool) (n : Nat) : SS.ok { m with on := on, tried := n } := ⟨h.len, h.up, h.pos, h.read⟩
theorem SS.ok.scan {m : SS} (h : m.ok) (s : List UInt8) : (m.scan s).ok := by
  unfold SS.scan
  split
  · exact ⟨h.len, h.up, h.pos, h.read⟩
  · exact h
theorem SS.last_add (m : SS) (s : ByteArray) : m.last ≤ (m.add s).last ∧ (m.add s).last ≤ m.last + 1 := by
  unfold SS.add
  split
  · omega
  · split
    · show m.last ≤ m.last + 1 ∧ m.last + 1 ≤ m.last + 1; omega
    · omega
theorem SS.last_remove (m : SS) (id : Int) : (m.remove id).last = m.last := by unfold SS.remove; split <;> rfl
theorem SS.last_scan (m : SS) (s : List UInt8) : (m.scan s).last = m.last := by unfold SS.scan; split <;> rfl
end Wf

/-
  Plain: facts about sets of one small pattern.
-/
namespace Wf
def clA : Cls := (0, 8589934592, 0, 0)
def clB : Cls := (0, 17179869184, 0, 0)
def tAB : Rx := .cat (.byte clA) (.star (.byte clB))
def tAp : Rx := .plus (.byte clA)
def bAB : ByteArray := ⟨#[97, 98, 42]⟩
def bAp : ByteArray := ⟨#[97, 43]⟩
def bA : ByteArray := ⟨#[97]⟩
theorem ok_clA : okC clA := by unfold okC; decide
theorem ok_clB : okC clB := by unfold okC; decide
theorem ab_ok : okT tAB := by
  intro n hn
  simp [tAB, flat] at hn
  rcases hn with rfl | rfl | rfl | rfl
  · exact okC_zc
  · exact ok_clA
  · exact okC_zc
  · exact ok_clB
theorem ap_ok : okT tAp := by
  intro n hn
  simp [tAp, flat] at hn
  rcases hn with rfl | rfl
  · exact okC_zc
  · exact ok_clA
theorem a_ok : okT (.byte clA) := by
  intro n hn
  simp [flat] at hn
  rw [hn]
  exact ok_clA
theorem parse_of (T : ByteArray) (t : Rx) (hok : okT t) (hT : textT t = T.data.toList) (hs : T.size ≤ 200) (hf : (flat t).length ≤ 60) : parseE T = (0, 0, some t) := by
  have hw := print_whole t hok
  rw [hT] at hw
  unfold parseE
  rw [if_neg (by omega), hw]
  dsimp only
  rw [if_pos (by simp), if_pos hf]
theorem parse_ab : parseE bAB = (0, 0, some tAB) := parse_of _ _ ab_ok (by decide +kernel) (by decide) (by decide)
theorem parse_ap : parseE bAp = (0, 0, some tAp) := parse_of _ _ ap_ok (by decide +kernel) (by decide) (by decide)
theorem parse_a : parseE bA = (0, 0, some (.byte clA)) := parse_of _ _ a_ok (by decide +kernel) (by decide) (by decide)
/-- A set of one pattern. -/
def oneM (T : ByteArray) (t : Rx) (on : Bool) (n : Nat) : SS := ⟨[⟨1, T, t⟩], 1, on, n⟩
theorem zero_add {T : ByteArray} {t : Rx} (h : parseE T = (0, 0, some t)) : SS.zero.add T = oneM T t false 0 ∧ SS.zero.added T = (1, 0, 0) := by
  unfold SS.add SS.added
  rw [h]
  exact ⟨rfl, rfl⟩
theorem one_hits (T : ByteArray) (t : Rx) (on : Bool) (n : Nat) (s : List UInt8) : (oneM T t on n).hits s = (spansO s t 0).map fun p => (1, p.1, p.2) := by
  simp [SS.hits, oneM, hitsOf]
theorem ab_spans : spansO [97, 98] tAB 0 = [(0, 2)] := by
  rw [spans_eq (by decide +kernel)]
  decide +kernel
theorem ap_spans : spansO [98, 97, 97] tAp 0 = [(1, 3)] := by
  rw [spans_eq (by decide +kernel)]
  decide +kernel
theorem cc_no : stands (litL tAB).1 [99, 99] = false := by decide +kernel
theorem cc_hits (n : Nat) : (oneM bAB tAB true n).hits [99, 99] = [] := by rw [one_hits, not_tried cc_no]; rfl
theorem cc_tried (n : Nat) : (oneM bAB tAB true n).scan [99, 99] = oneM bAB tAB true 0 := by
  unfold SS.scan SS.tries oneM
  simp [cc_no]
theorem ab_hits (n : Nat) : (oneM bAB tAB true n).hits [97, 98] = [(1, 0, 2)] := by rw [one_hits, ab_spans]; rfl
theorem ap_hits (n : Nat) : (oneM bAp tAp false n).hits [98, 97, 97] = [(1, 1, 3)] := by rw [one_hits, ap_spans]; rfl
/-- With the filter no more are tried; without it all are. -/
theorem tries_off (m : SS) (s : List UInt8) (h : m.on = false) : m.tries s = m.ms := by
  unfold SS.tries
  rw [h]
  simp
theorem tries_le (m : SS) (s : List UInt8) : (m.tries s).length ≤ m.ms.length := List.length_filter_le _ _
theorem hits_same (m m' : SS) (s : List UInt8) (h : m.ms = m'.ms) : m.hits s = m'.hits s := by unfold SS.hits; rw [h]
theorem scan_ms (m : SS) (s : List UInt8) : (m.scan s).ms = m.ms := by unfold SS.scan; split <;> rfl
end Wf
