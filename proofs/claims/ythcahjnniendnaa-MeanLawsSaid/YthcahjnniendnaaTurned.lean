/-
  The statements' turned text; a pattern turned fits the turned text.
-/
import Derived.Test.YthcahjnniendnaaMeanF
namespace Wf

theorem Star.rev {R R' : Nat → Nat → Prop} {n i j : Nat} (h : Star R i j) (hr : ∀ a b, R a b → R' (n - b) (n - a)) : Star R' (n - j) (n - i) := by
  induction h with
  | refl => exact .refl _
  | tail _ hab ih => exact Star.head (hr _ _ hab) ih

theorem Star.swap {R : Nat → Nat → Prop} {x y z : Nat} (h : Star R x y) (h2 : R y z) : ∃ k, R x k ∧ Star R k z := by
  induction h generalizing z with
  | refl => exact ⟨z, h2, .refl _⟩
  | tail hxy hab ih =>
    obtain ⟨k, h3, h4⟩ := ih hab
    exact ⟨k, h3, .tail h4 h2⟩

theorem fits_turn (s : List UInt8) (u : Rx) : ∀ i j, Fits s u i j → i ≤ s.length → Fits s.reverse (turnT u) (s.length - j) (s.length - i) := by
  have hstar : ∀ (a : Rx), (∀ i j, Fits s a i j → i ≤ s.length → Fits s.reverse (turnT a) (s.length - j) (s.length - i)) → ∀ i j, Star (Fits s a) i j → i ≤ s.length → Star (Fits s.reverse (turnT a)) (s.length - j) (s.length - i) := by
    intro a ih i j h hi
    have h2 : Star (fun x y => x ≤ s.length ∧ Fits s a x y) i j ∧ j ≤ s.length := by
      induction h with
      | refl => exact ⟨.refl _, hi⟩
      | tail _ hab ih2 => exact ⟨.tail ih2.1 ⟨ih2.2, hab⟩, (fits_bound s a _ _ hab ih2.2).2⟩
    exact h2.1.rev (n := s.length) fun x y hxy => ih x y hxy.2 hxy.1
  induction u with
  | byte c =>
    intro i j h hi
    simp only [Fits] at h
    obtain ⟨rfl, b, hb, hc⟩ := h
    have hlt : i < s.length := by
      rcases Nat.lt_or_ge i s.length with h | h
      · exact h
      · rw [List.getElem?_eq_none h] at hb; cases hb
    simp only [turnT, Fits]
    refine ⟨by omega, b, ?_, hc⟩
    rw [List.getElem?_reverse (by omega), show s.length - 1 - (s.length - (i + 1)) = i from by omega]
    exact hb
  | empty => intro i j h hi; simp only [turnT, Fits] at h ⊢; omega
  | bgn => intro i j h hi; simp only [turnT, Fits, List.length_reverse] at h ⊢; omega
  | fin => intro i j h hi; simp only [turnT, Fits] at h ⊢; omega
  | cat a b iha ihb =>
    intro i j h hi
    simp only [turnT, Fits] at h ⊢
    obtain ⟨k, h1, h2⟩ := h
    exact ⟨s.length - k, ihb k j h2 (fits_bound s a i k h1 hi).2, iha i k h1 hi⟩
  | alt a b iha ihb =>
    intro i j h hi
    simp only [turnT, Fits] at h ⊢
    exact h.imp (fun h => iha i j h hi) (fun h => ihb i j h hi)
  | star a ih =>
    intro i j h hi
    simp only [turnT, Fits] at h ⊢
    exact hstar a ih i j h hi
  | plus a ih =>
    intro i j h hi
    simp only [turnT, Fits] at h ⊢
    obtain ⟨k, h1, h2⟩ := h
    exact (hstar a ih k j h2 (fits_bound s a i k h1 hi).2).swap (ih i k h1 hi)
  | opt a ih =>
    intro i j h hi
    simp only [turnT, Fits] at h ⊢
    rcases h with rfl | h
    · exact .inl rfl
    · exact .inr (ih i j h hi)

theorem fits_turn_iff (s : List UInt8) (u : Rx) (i j : Nat) (hi : i ≤ s.length) (hj : j ≤ s.length) : Fits s u i j ↔ Fits s.reverse (turnT u) (s.length - j) (s.length - i) := by
  constructor
  · intro h; exact fits_turn s u i j h hi
  · intro h
    have := fits_turn s.reverse (turnT u) _ _ h (by rw [List.length_reverse]; omega)
    rw [List.reverse_reverse, turn_turn, List.length_reverse] at this
    rw [show s.length - (s.length - i) = i from by omega, show s.length - (s.length - j) = j from by omega] at this
    exact this

end Wf
namespace Go.Proofs.Ythcahjnniendnaa
open Go.RowKit Wf

def TurnedIs (s : ByteArray) (w : World) (e : Ending) (w' : World) : Prop := ∃ t : ByteArray, e = .returned (.string t) ∧ t.data.toList = s.data.toList.reverse ∧ w = w'

set_option maxRecDepth 100000 in
set_option maxHeartbeats 4000000 in
theorem turned_any (s : ByteArray) (hs : s.size ≤ 400) (w : World) : Calls Try.prog 29 #[.string s] w (TurnedIs s w) := by
  go_enter Try.func29, Try.ntmps29
  go_wp2
  go_loopw [3, 4] (fun v3 v4 wr => ∃ (k : Nat) (t : ByteArray), k ≤ s.size ∧ v4 = .int .i64 ((k : Int) - 1) ∧ v3 = .string t ∧ Hid (t.data.toList = (s.data.toList.drop k).reverse) ∧ t.size = s.size - k ∧ Hid (w = wr)) (fun _ i _ => (intOf i + 1).toNat)
  case atStart => exact ⟨s.size, ByteArray.mk #[], by omega, rfl, rfl, Lib.hid (by rw [List.drop_of_length_le (by simp)]; rfl), by show 0 = _; omega, Lib.hid rfl⟩
  case round =>
    obtain ⟨k, t, hk, rfl, rfl, HT, hsz, HW⟩ := hrel
    rcases k with _ | k
    · go_wp2
      go_ret
      exact ⟨t, rfl, by simpa using HT.out, HW.out⟩
    · go_wp2
      go_roundw
      case rel =>
        refine ⟨k, t ++ s.extract k (k + 1), by omega, rfl, rfl, Lib.hid ?_, ?_, HW⟩
        · have hlt : k < s.data.toList.length := by simp; omega
          rw [List.drop_eq_getElem_cons hlt, List.reverse_cons, ← HT.out]
          have e : (s.extract k (k + 1)).data.toList = [s.data.toList[k]] := by
            rw [ByteArray.data_extract, Array.toList_extract, List.extract_eq_take_drop, List.drop_eq_getElem_cons hlt, show k + 1 - k = 1 from by omega]
            rfl
          rw [ByteArray.data_append, Array.toList_append, e]
        · rw [ByteArray.size_append, ByteArray.size_extract]
          omega
      case measure => simp [intOf]
end Go.Proofs.Ythcahjnniendnaa
