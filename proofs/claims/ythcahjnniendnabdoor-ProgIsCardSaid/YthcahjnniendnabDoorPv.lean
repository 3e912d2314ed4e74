/-
  Plain: a program as a text.
-/
import Derived.Test.YthcahjnniendnabDoorGPl
import Derived.Test.YthcahjnniendnabDoorMemS
import Derived.Lib.ItoaNum
namespace Wf

def decL (n : Int) : List UInt8 := Go.Lib.decDigits n.toNat
theorem decL_nat (n : Nat) : decL (n : Int) = Go.Lib.decDigits n := rfl
/-- A step's words. -/
def headT (s : St) : List UInt8 :=
  if s.op = 1 then [116, 97, 107, 101, 32] ++ textC s.cls ++ ([32] ++ decL s.x)
  else if s.op = 2 then [102, 111, 114, 107] ++ ([32] ++ decL s.x) ++ ([32] ++ decL s.y)
  else if s.op = 3 then [102, 105, 114, 115, 116] ++ ([32] ++ decL s.x)
  else if s.op = 4 then [108, 97, 115, 116] ++ ([32] ++ decL s.x)
  else [100, 111, 110, 101]
def textP (p : List St) : List UInt8 := p.flatMap (fun s => headT s ++ [10])
theorem textP_at {p : List St} {k : Nat} {s : St} (h : p[k]? = some s) : textP (p.drop k) = headT s ++ [10] ++ textP (p.drop (k + 1)) := by
  obtain ⟨hk, he⟩ := List.getElem?_eq_some_iff.1 h
  rw [List.drop_eq_getElem_cons hk, he]
  simp [textP]
theorem textP_end (p : List St) : textP (p.drop p.length) = [] := by rw [List.drop_length]; rfl
theorem textC_len (c : Cls) : (textC c).length ≤ 2400 := by
  unfold textC
  have h1 := (byteT_len (least c 0)).1
  have h2 := runsT_len c 0
  split
  · omega
  · split
    · simp
    · simp; omega
theorem dec_len {n : Nat} (h : n < 1000) : (Go.Lib.decDigits n).length ≤ 3 := by
  rw [Go.Lib.decDigits]
  split
  · simp
  · rw [Go.Lib.decDigits]
    split
    · simp
    · rw [Go.Lib.decDigits, dif_pos (by omega)]
      simp
end Wf
