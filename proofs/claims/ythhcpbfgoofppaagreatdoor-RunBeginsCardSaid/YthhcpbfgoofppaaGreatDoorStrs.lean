/-
  Rows of texts in memory.
-/
import Derived.Test.YthhcpbfgoofppaaGreatDoorLaws
import Derived.Test.YthhcpbfgoofppaaGreatDoorMem
set_option linter.unusedVariables false
set_option linter.unusedSimpArgs false
namespace Go.Proofs.YthhcpbfgoofppaaGreatDoor
open Go.RowKit Wf
def strVals (xs : List ByteArray) : List Value:=xs.map Value.string
theorem strVals_snoc (xs : List ByteArray) (s : ByteArray) : strVals (xs ++ [s]) = strVals xs ++ [.string s]:=by simp [strVals]
theorem strVals_len (xs : List ByteArray) : (strVals xs).length = xs.length:=by simp [strVals]
theorem info_str : (Tryz.prog.info? 9).map (fun i => (i.zero,i.size,i.bytes)) = some (some (.string ⟨#[]⟩),1,16):=by kernel_rfl
theorem str_open {w : World} {v : Value} {xs : List ByteArray} (h : Rd1 w v (strVals xs)) : ∃ (A : Option Addr) (cap : Nat),v = .slice A xs.length cap ∧ xs.length ≤ cap ∧ cap ≤ 9223372036854775807 ∧
 (0 < xs.length → ∃ b off,A = some ⟨b,off,none⟩ ∧ b < w.heap.size ∧ ∀ (w' : World),(∀ o,w'.cell? ⟨b,o,none⟩ = w.cell? ⟨b,o,none⟩) → ∀ (k : Nat) (x : ByteArray),xs[k]? = some x → w'.cell? ⟨b,off + k,none⟩ = some (.string x)):=by
 obtain ⟨A,cap,hv,h1,h2,h3⟩:=Rd1.open_ h
 rw [strVals_len] at hv h1 h3
 refine ⟨A,cap,hv,h1,h2,fun hn => ?_⟩
 obtain ⟨b,off,ha,hb,hc⟩:=h3 hn
 exact ⟨b,off,ha,hb,fun w' hw k x hx => hc w' hw k _ (by simp [strVals,hx])⟩
end Go.Proofs.YthhcpbfgoofppaaGreatDoor
