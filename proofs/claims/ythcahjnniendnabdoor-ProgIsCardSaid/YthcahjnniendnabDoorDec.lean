/-
  The document's numerals.
-/
import Derived.Test.YthcahjnniendnabDoorPgText
namespace Go.Proofs.YthcahjnniendnabDoor
open Go.RowKit Wf

def DecIs (n : Nat) (w : World) (e : Ending) (w' : World) : Prop := ∃ s : ByteArray, e = .returned (.string s) ∧ s.data.toList = decL n ∧ s.size ≤ 3 ∧ w = w'
theorem digT : ∀ b : Fin 10, ((ByteArray.mk #[48, 49, 50, 51, 52, 53, 54, 55, 56, 57]).extract b.val (b.val + 1)).data.toList = [UInt8.ofNat (48 + b.val)] := by decide +kernel
theorem dec_step {m : Nat} (h : 9 < m) (t : ByteArray) (T : List UInt8) (hh : Go.Lib.decDigits m ++ t.data.toList = T) :
    Go.Lib.decDigits (m / 10) ++ ((ByteArray.mk #[48, 49, 50, 51, 52, 53, 54, 55, 56, 57]).extract (m % 10) (m % 10 + 1) ++ t).data.toList = T := by
  rw [data_app, digT ⟨m % 10, by omega⟩, ← hh]
  conv => rhs; rw [Go.Lib.decDigits, dif_neg (by omega)]
  simp
theorem dec_end {m : Nat} (h : ¬ 9 < m) (t : ByteArray) (T : List UInt8) (hh : Go.Lib.decDigits m ++ t.data.toList = T) :
    ((ByteArray.mk #[48, 49, 50, 51, 52, 53, 54, 55, 56, 57]).extract m (m + 1) ++ t).data.toList = T := by
  rw [data_app, digT ⟨m, by omega⟩, ← hh]
  conv => rhs; rw [Go.Lib.decDigits, dif_pos (by omega)]

set_option maxRecDepth 100000 in
theorem RDec_any (n : Nat) (hn : n ≤ 200) (w : World) : Calls Tryd.prog 43 #[.int .i64 (n : Int)] w (DecIs n w) := by
  have HL := Lib.hid (dec_len (n := n) (by omega))
  unfold DecIs
  go_enter Tryd.func43, Tryd.ntmps43
  go_wp2
  go_loopw [0, 3] (fun v0 v3 wr => ∃ (m : Nat) (t : ByteArray), m ≤ 200 ∧ v0 = .int .i64 (m : Int) ∧ v3 = .string t ∧ t.size ≤ 3 ∧ Hid (Go.Lib.decDigits m ++ t.data.toList = decL n) ∧ Hid (w = wr)) (fun i _ _ => (intOf i).toNat)
  case atStart => exact ⟨n, ⟨#[]⟩, hn, rfl, rfl, by simp [bsz], Lib.hid (by rw [decL_nat]; simp), Lib.hid rfl⟩
  case round =>
    obtain ⟨m, t, hm, rfl, rfl, hz, HT, HW⟩ := hrel
    by_cases hlt : 9 < m
    · have d1 : decide ((9 : Int) < (m : Int)) = true := by simp; omega
      have HN := dec_step hlt t _ HT.out
      have hz2 := congrArg List.length HN
      have hl := HL.out
      rw [List.length_append, ← sz_list, decL_nat] at hz2
      go_wp2
      exact ⟨⟨m / 10, _, by omega, by go_num, rfl, by omega, Lib.hid HN, HW⟩, by simp [intOf]; omega⟩
    · have d1 : decide ((9 : Int) < (m : Int)) = false := by simp; omega
      have i1 : (m : Int) + 1 ≤ 10 := by omega
      have HN := dec_end hlt t _ HT.out
      have hz2 := congrArg List.length HN
      have hl := HL.out
      rw [← sz_list, decL_nat] at hz2
      go_wp2
      go_ret
      exact ⟨_, rfl, HN, by omega, HW.out⟩
end Go.Proofs.YthcahjnniendnabDoor
