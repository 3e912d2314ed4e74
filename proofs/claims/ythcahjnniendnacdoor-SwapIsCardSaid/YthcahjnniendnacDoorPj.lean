/-
  Plain facts about what stands between spans: pieces of a text; joined. No program in sight.
-/
import Derived.Test.YthcahjnniendnacDoorPh
import Derived.Lib.Join
namespace Wf

/-- Spans that rise from a place on, and do not overlap. -/
inductive Rise (N : Nat) : Nat → List (Nat × Nat) → Prop where
  | nil (f : Nat) : Rise N f []
  | cons {f a b : Nat} {r : List (Nat × Nat)} (h1 : f ≤ a) (h2 : a ≤ b) (h3 : b ≤ N) (h : Rise N b r) : Rise N f ((a, b) :: r)
theorem Rise.weaken {N f g : Nat} {l : List (Nat × Nat)} (h : Rise N f l) (hg : g ≤ f) : Rise N g l := by
  cases h with
  | nil => exact .nil _
  | cons h1 h2 h3 h => exact .cons (Nat.le_trans hg h1) h2 h3 h
theorem allO_rise {L : Nat → Option Nat} {N : Nat} (hL : Behind L N) : ∀ at_, Rise N at_ (allO L N at_) := by
  have key : ∀ n at_, N + 1 - at_ ≤ n → Rise N at_ (allO L N at_) := by
    intro n
    induction n with
    | zero => intro at_ h; rw [allO_end (by omega)]; exact .nil _
    | succ n ih =>
      intro at_ h
      cases hf : findO L N at_ with
      | none => rw [allO_none hf]; exact .nil _
      | some p =>
        obtain ⟨a, b⟩ := p
        have hg := behind_gt hL hf
        obtain ⟨h1, _⟩ := findO_is hf
        rw [allO_some hL hf]
        refine .cons h1 hg.2.2.1 hg.2.2.2 ((ih (behind a b) (by omega)).weaken ?_)
        unfold behind
        split <;> omega
  exact fun at_ => key _ at_ (Nat.le_refl _)

/-- The end of the last span. -/
def lastB : Nat → List (Nat × Nat) → Nat
  | f, [] => f
  | _, (_, b) :: r => lastB b r
theorem lastB_snoc (l : List (Nat × Nat)) (a b : Nat) : ∀ f, lastB f (l ++ [(a, b)]) = b := by
  induction l with
  | nil => intro f; rfl
  | cons x l ih => intro f; exact ih _
theorem Rise.at_ {N a b : Nat} {r : List (Nat × Nat)} : ∀ {f : Nat} {l : List (Nat × Nat)}, Rise N f (l ++ (a, b) :: r) → lastB f l ≤ a ∧ a ≤ b ∧ b ≤ N := by
  intro f l
  induction l generalizing f with
  | nil => intro h; cases h with | cons h1 h2 h3 h => exact ⟨h1, h2, h3⟩
  | cons x l ih => intro h; cases h with | cons h1 h2 h3 h => exact ih h
theorem Rise.last {N : Nat} : ∀ {f : Nat} {l : List (Nat × Nat)}, f ≤ N → Rise N f l → lastB f l ≤ N ∧ f ≤ lastB f l := by
  intro f l
  induction l generalizing f with
  | nil => intro hf _; exact ⟨hf, Nat.le_refl _⟩
  | cons x l ih =>
    intro _ h
    cases h with
    | cons h1 h2 h3 h => have := ih h3 h; exact ⟨this.1, by show f ≤ lastB _ l; omega⟩

/-- Pieces ahead of the spans. -/
def cutB (tx : ByteArray) : Nat → List (Nat × Nat) → List ByteArray
  | _, [] => []
  | f, (a, b) :: r => tx.extract f a :: cutB tx b r
theorem cutB_snoc (tx : ByteArray) (l : List (Nat × Nat)) (a b : Nat) : ∀ f, cutB tx f (l ++ [(a, b)]) = cutB tx f l ++ [tx.extract (lastB f l) a] := by
  induction l with
  | nil => intro f; rfl
  | cons x l ih => intro f; show tx.extract f x.1 :: cutB tx x.2 (l ++ [(a, b)]) = _; rw [ih]; rfl
theorem cutB_len (tx : ByteArray) (l : List (Nat × Nat)) : ∀ f, (cutB tx f l).length = l.length := by
  induction l with
  | nil => intro f; rfl
  | cons x l ih => intro f; show (_ :: _).length = _; simp [ih]
/-- All pieces. -/
def piecesB (tx : ByteArray) (l : List (Nat × Nat)) : List ByteArray := cutB tx 0 l ++ [tx.extract (lastB 0 l) tx.size]
theorem piecesB_len (tx : ByteArray) (l : List (Nat × Nat)) : (piecesB tx l).length = l.length + 1 := by simp [piecesB, cutB_len]
theorem extract_le (tx : ByteArray) (a b : Nat) : (tx.extract a b).size ≤ tx.size := by rw [ByteArray.size_extract]; omega
theorem cutB_size (tx : ByteArray) (l : List (Nat × Nat)) : ∀ f, ∀ s ∈ cutB tx f l, s.size ≤ tx.size := by
  induction l with
  | nil => intro f s hs; cases hs
  | cons x l ih =>
    intro f s hs
    rcases List.mem_cons.1 hs with rfl | hs
    · exact extract_le _ _ _
    · exact ih _ s hs
theorem piecesB_size (tx : ByteArray) (l : List (Nat × Nat)) : ∀ s ∈ piecesB tx l, s.size ≤ tx.size := by
  intro s hs
  rcases List.mem_append.1 hs with hs | hs
  · exact cutB_size tx l 0 s hs
  · obtain rfl : s = _ := by simpa using hs
    exact extract_le _ _ _

theorem join_snoc (sep x : List UInt8) (xs : List (List UInt8)) : Go.Lib.join (xs ++ [x]) sep = if xs = [] then x else Go.Lib.join xs sep ++ sep ++ x := by
  induction xs with
  | nil => simp [Go.Lib.join_one]
  | cons y r ih =>
    cases r with
    | nil => simp [Go.Lib.join, List.intercalate]
    | cons z r =>
      have e : ∀ (q : List (List UInt8)), Go.Lib.join (y :: z :: q) sep = y ++ sep ++ Go.Lib.join (z :: q) sep := fun q => by simp [Go.Lib.join, List.intercalate]
      rw [List.cons_append, List.cons_append, e, show z :: (r ++ [x]) = (z :: r) ++ [x] from rfl, ih, e]
      simp
theorem split_at {α : Type} {l : List α} {k : Nat} {x : α} (h : l[k]? = some x) : l = l.take k ++ x :: l.drop (k + 1) := by
  obtain ⟨hk, rfl⟩ := List.getElem?_eq_some_iff.1 h
  rw [← List.drop_eq_getElem_cons hk, List.take_append_drop]
theorem join_le (sep : List UInt8) (m : Nat) : ∀ xs : List (List UInt8), (∀ x ∈ xs, x.length ≤ m) → (Go.Lib.join xs sep).length ≤ xs.length * (m + sep.length) := by
  intro xs
  induction xs with
  | nil => intro _; simp [Go.Lib.join]
  | cons x r ih =>
    intro h
    have hx := h x (by simp)
    cases r with
    | nil => rw [Go.Lib.join_one]; simp; omega
    | cons y r =>
      have := ih fun z hz => h z (by simp [hz])
      have e : Go.Lib.join (x :: y :: r) sep = x ++ sep ++ Go.Lib.join (y :: r) sep := by simp [Go.Lib.join, List.intercalate]
      rw [e, List.length_append, List.length_append, List.length_cons, Nat.succ_mul]
      omega
/-- What is joined so far. -/
def jl (xs : List ByteArray) (bx : ByteArray) (k : Nat) : List UInt8 := Go.Lib.join ((xs.take k).map (·.data.toList)) bx.data.toList
theorem jl_zero (xs : List ByteArray) (bx : ByteArray) : jl xs bx 0 = [] := rfl
theorem take_more {α : Type} {l : List α} {k : Nat} {x : α} (h : l[k]? = some x) : l.take (k + 1) = l.take k ++ [x] := by
  rw [List.take_add_one, h]
  rfl
theorem jl_succ {xs : List ByteArray} {bx s : ByteArray} {k : Nat} (h : xs[k]? = some s) : jl xs bx (k + 1) = if k = 0 then s.data.toList else jl xs bx k ++ bx.data.toList ++ s.data.toList := by
  unfold jl
  rw [take_more h, List.map_append, List.map_cons, List.map_nil, join_snoc]
  have hk := (List.getElem?_eq_some_iff.1 h).1
  by_cases e : k = 0
  · subst e; simp
  · rw [if_neg e, if_neg (fun h => by have h3 := congrArg List.length h; simp only [List.length_map, List.length_take, List.length_nil] at h3; omega)]
/-- Joined with nothing between. -/
theorem jl_more {xs : List ByteArray} {s : ByteArray} {k : Nat} (h : xs[k]? = some s) : jl xs ⟨#[]⟩ (k + 1) = jl xs ⟨#[]⟩ k ++ s.data.toList := by
  rw [jl_succ h]
  split
  · rename_i e; subst e; simp [jl_zero]
  · simp

theorem cutB_get (tx : ByteArray) (l : List (Nat × Nat)) : ∀ (f k a b : Nat), l[k]? = some (a, b) → (cutB tx f l)[k]? = some (tx.extract (lastB f (l.take k)) a) := by
  induction l with
  | nil => intro f k a b h; simp at h
  | cons x l ih =>
    intro f k a b h
    cases k with
    | zero => simp at h; subst h; rfl
    | succ k =>
      have := ih x.2 k a b (by simpa using h)
      simpa [cutB, lastB] using this
theorem pieces_get {tx : ByteArray} {l : List (Nat × Nat)} {k a b : Nat} (h : l[k]? = some (a, b)) : (piecesB tx l)[k]? = some (tx.extract (lastB 0 (l.take k)) a) := by
  have hk := (List.getElem?_eq_some_iff.1 h).1
  unfold piecesB
  rw [List.getElem?_append_left (by rw [cutB_len]; exact hk)]
  exact cutB_get tx l 0 k a b h
theorem pieces_last (tx : ByteArray) (l : List (Nat × Nat)) : (piecesB tx l)[l.length]? = some (tx.extract (lastB 0 l) tx.size) := by
  unfold piecesB
  rw [List.getElem?_append_right (by rw [cutB_len]; exact Nat.le_refl _), cutB_len]
  simp
theorem ext_list (tx : ByteArray) (f a : Nat) : (tx.extract f a).data.toList = (tx.data.toList.take a).drop f := by
  rw [ByteArray.data_extract, Array.toList_extract]
  simp [List.extract_eq_take_drop, List.drop_take]
theorem take_ext (tx : ByteArray) (f a : Nat) (h : f ≤ a) : tx.data.toList.take f ++ (tx.extract f a).data.toList = tx.data.toList.take a := by
  rw [ext_list]
  have := List.take_append_drop f (tx.data.toList.take a)
  rw [List.take_take, Nat.min_eq_left h] at this
  exact this
/-- What stands between is no longer than the text. -/
theorem jl_le {tx : ByteArray} {l : List (Nat × Nat)} (h : Rise tx.size 0 l) : ∀ k, k ≤ l.length → (jl (piecesB tx l) ⟨#[]⟩ k).length ≤ lastB 0 (l.take k) := by
  intro k
  induction k with
  | zero => intro _; simp [jl_zero]
  | succ k ih =>
    intro hk
    have hq : l[k]? = some (l[k]'(by omega)) := List.getElem?_eq_getElem (by omega)
    generalize l[k]'(by omega) = q at hq
    obtain ⟨a, b⟩ := q
    have h1 := h
    rw [split_at hq] at h1
    obtain ⟨g1, g2, g3⟩ := h1.at_
    rw [jl_more (pieces_get hq), take_more hq, lastB_snoc, List.length_append, ext_list]
    have := ih (by omega)
    simp
    omega
theorem jl_all {tx : ByteArray} {l : List (Nat × Nat)} (h : Rise tx.size 0 l) : (jl (piecesB tx l) ⟨#[]⟩ (l.length + 1)).length ≤ tx.size := by
  have h1 := jl_le h l.length (Nat.le_refl _)
  have h2 := h.last (Nat.zero_le _)
  rw [List.take_length] at h1
  rw [jl_more (pieces_last tx l), List.length_append, ext_list]
  simp
  omega
end Wf

