/-
  Span, Hit.
-/
import Derived.Test.YthhcpbfgoofppaaGreatDoorGEach
import Derived.Test.YthhcpbfgoofppaaGreatDoorGRex
import Derived.Test.YthhcpbfgoofppaaGreatDoorLaws
import Derived.Test.YthhcpbfgoofppaaGreatDoorMem
set_option linter.unusedVariables false
set_option linter.unusedSimpArgs false
namespace Go.Proofs.YthhcpbfgoofppaaGreatDoor
open Go.RowKit Wf
def spanVals (l : List (Nat × Nat)) : List Value:=l.flatMap fun p => [.int .i64 (p.1 : Int),.int .i64 (p.2 : Int)]
theorem spanVals_len (l : List (Nat × Nat)) : (spanVals l).length = l.length * 2:=by
 induction l with
 | nil => rfl
 | cons x l ih => simp only [spanVals,List.flatMap_cons,List.length_append,List.length_cons] at ih ⊢;rw [ih];simp;omega
theorem spanVals_snoc (l : List (Nat × Nat)) (x y : Nat) : spanVals (l ++ [(x,y)]) = spanVals l ++ [.int .i64 (x : Int),.int .i64 (y : Int)]:=by simp [spanVals]
theorem info_span : (Tryz.prog.info? 68).map (fun i => (i.zero,i.size,i.bytes)) = some (some (.agg #[.int .i64 0,.int .i64 0]),2,16):=by kernel_rfl
theorem new_two (W : World) (t : TypeId) (x y : Value) (g : Nat) (hg : g = W.heap.size) : ∀ (j : Nat) (u : Value),[x,y][j]? = some u → (W.alloc (.cells #[x,y] t)).cell? ((⟨g,0,none⟩ : Addr).add j) = some u:=by
 intro j u hu
 subst hg
 rw [add_mk,Nat.zero_add,(Blk.new W t #[x,y]).cell]
 simpa using hu
theorem spanVals_get (l : List (Nat × Nat)) : ∀ (k j : Nat) (x y : Nat),l[k]? = some (x,y) → j < 2 → (spanVals l)[k * 2 + j]? = [Value.int .i64 (x : Int),Value.int .i64 (y : Int)][j]?:=by
 induction l with
 | nil => intro k j x y h;simp at h
 | cons m r ih =>
   intro k j x y h hj
   rcases k with _ | k
   ·simp at h
    subst h
    simp only [spanVals,List.flatMap_cons,Nat.zero_mul,Nat.zero_add]
    rw [List.getElem?_append_left (by simpa using hj)]
   ·simp only [spanVals,List.flatMap_cons]
    rw [List.getElem?_append_right (by simp;omega)]
    have e : (k + 1) * 2 + j - [Value.int .i64 (m.1 : Int),Value.int .i64 (m.2 : Int)].length = k * 2 + j:=by simp;omega
    rw [e]
    exact ih k j x y (by simpa using h) hj
theorem span_open {w : World} {v : Value} {l : List (Nat × Nat)} (h : Rd w 2 v (spanVals l)) : ∃ (A : Option Addr) (cap : Nat),v = .slice A l.length cap ∧ l.length ≤ cap ∧ cap ≤ 9223372036854775807 ∧
 (0 < l.length → ∃ b off,A = some ⟨b,off,none⟩ ∧ b < w.heap.size ∧ ∀ (w' : World),(∀ o,w'.cell? ⟨b,o,none⟩ = w.cell? ⟨b,o,none⟩) → ∀ (k x y : Nat),l[k]? = some (x,y) → w'.cell? ⟨b,off + k * 2,none⟩ = some (.int .i64 (x : Int)) ∧ w'.cell? ⟨b,off + k * 2 + 1,none⟩ = some (.int .i64 (y : Int))):=by
 obtain ⟨A,n,cap,rfl,h1,h2,h3,h4⟩:=h
 rw [spanVals_len] at h3
 obtain rfl : n = l.length:=by omega
 refine ⟨A,cap,rfl,h1,h2,fun hn => ?_⟩
 obtain ⟨b,off,rfl,hc⟩:=h4 hn
 have hget : ∀ (k x y : Nat),l[k]? = some (x,y) → ∀ j u,j < 2 → [Value.int .i64 (x : Int),Value.int .i64 (y : Int)][j]? = some u → w.cell? ⟨b,off + (k * 2 + j),none⟩ = some u:=by
  intro k x y hk j u hj hu
  exact hc _ _ (by rw [spanVals_get l k j x y hk hj];exact hu)
 have hlt : b < w.heap.size:=by
  have hl : l[0]? = some (l[0]'hn):=List.getElem?_eq_getElem hn
  exact World.block_lt_of_cell? w _ (hget 0 _ _ hl 0 _ (by omega) rfl)
 refine ⟨b,off,rfl,hlt,fun w' hw k x y hk => ?_⟩
 simp only [hw]
 exact ⟨hget k x y hk 0 _ (by omega) rfl,hget k x y hk 1 _ (by omega) rfl⟩
def sp2 (x y x' y' : Int) : Bool:=x == x' && y == y'
theorem eqIn_span (d : Nat) (x y x' y' : Int) (w : World) :
 (Op.equalIn (d + 2) 68 (.agg #[.int .i64 x,.int .i64 y]) (.agg #[.int .i64 x',.int .i64 y'])).run Tryz.prog w = .ok (sp2 x y x' y') w:=by
 have a4:=Tryz.isAgg3
 have u4:=Tryz.underlying3
 have z4:=Tryz.sizeOf3
 have hS : Tryz.prog.underlying 68 = some (.struct (Tryz.prog.fieldsOf 68)):=by kernel_rfl
 have hp : Tryz.prog.stoodInHeld 68 = false:=by kernel_rfl
 rw [show d + 2 = (d + 1) + 1 from rfl,run_equalIn_agg w (d + 1) 68 _ _ hS hp]
 simp only [Program.fieldsOf,Tryz.underlying68]
 go_simp
 unfold sp2
 by_cases h1 : x = x' <;> by_cases h2 : y = y' <;> simp [h1,h2]
@[go_sem high] theorem eq10_span (x y x' y' : Int) (w : World) :
 (Op.equalIn 10000 68 (.agg #[.int .i64 x,.int .i64 y]) (.agg #[.int .i64 x',.int .i64 y'])).run Tryz.prog w = .ok (sp2 x y x' y') w:=eqIn_span 9998 x y x' y' w
theorem hits_get (l : List (Nat × Nat × Nat)) : ∀ (k j : Nat) (h : Nat × Nat × Nat),l[k]? = some h → j < 3 → (l.flatMap hitCells)[k * 3 + j]? = (hitCells h)[j]?:=by
 induction l with
 | nil => intro k j x h;simp at h
 | cons m r ih =>
   intro k j x h hj
   rcases k with _ | k
   ·simp at h
    subst h
    simp only [List.flatMap_cons,Nat.zero_mul,Nat.zero_add]
    rw [List.getElem?_append_left (by simpa [hitCells] using hj)]
   ·simp only [List.flatMap_cons]
    rw [List.getElem?_append_right (by simp [hitCells];omega)]
    have e : (k + 1) * 3 + j - (hitCells m).length = k * 3 + j:=by simp [hitCells];omega
    rw [e]
    exact ih k j x (by simpa using h) hj
theorem hit_open {w : World} {v : Value} {l : List (Nat × Nat × Nat)} (h : Rd w 3 v (l.flatMap hitCells)) : ∃ (A : Option Addr) (cap : Nat),v = .slice A l.length cap ∧ l.length ≤ cap ∧ cap ≤ 9223372036854775807 ∧
 (0 < l.length → ∃ b off,A = some ⟨b,off,none⟩ ∧ b < w.heap.size ∧ ∀ (w' : World),(∀ o,w'.cell? ⟨b,o,none⟩ = w.cell? ⟨b,o,none⟩) → ∀ (k x y z : Nat),l[k]? = some (x,y,z) → w'.cell? ⟨b,off + k * 3,none⟩ = some (.int .i64 (x : Int)) ∧ w'.cell? ⟨b,off + k * 3 + 1,none⟩ = some (.int .i64 (y : Int)) ∧ w'.cell? ⟨b,off + k * 3 + 2,none⟩ = some (.int .i64 (z : Int))):=by
 obtain ⟨A,n,cap,rfl,h1,h2,h3,h4⟩:=h
 rw [hits_len] at h3
 obtain rfl : n = l.length:=by omega
 refine ⟨A,cap,rfl,h1,h2,fun hn => ?_⟩
 obtain ⟨b,off,rfl,hc⟩:=h4 hn
 have hget : ∀ (k x y z : Nat),l[k]? = some (x,y,z) → ∀ j u,j < 3 → (hitCells (x,y,z))[j]? = some u → w.cell? ⟨b,off + (k * 3 + j),none⟩ = some u:=by
  intro k x y z hk j u hj hu
  exact hc _ _ (by rw [hits_get l k j _ hk hj];exact hu)
 have hlt : b < w.heap.size:=by
  have hl : l[0]? = some (l[0]'hn):=List.getElem?_eq_getElem hn
  exact World.block_lt_of_cell? w _ (hget 0 _ _ _ hl 0 _ (by omega) rfl)
 refine ⟨b,off,rfl,hlt,fun w' hw k x y z hk => ?_⟩
 simp only [hw]
 exact ⟨hget k x y z hk 0 _ (by omega) rfl,hget k x y z hk 1 _ (by omega) rfl,hget k x y z hk 2 _ (by omega) rfl⟩
def hit3 (x y z x' y' z' : Int) : Bool:=x == x' && (y == y' && z == z')
theorem eqIn_hit (d : Nat) (x y z x' y' z' : Int) (w : World) :
 (Op.equalIn (d + 3) 70 (.agg #[.int .i64 x,.int .i64 y,.int .i64 z]) (.agg #[.int .i64 x',.int .i64 y',.int .i64 z'])).run Tryz.prog w = .ok (hit3 x y z x' y' z') w:=by
 have a4:=Tryz.isAgg3
 have u4:=Tryz.underlying3
 have z4:=Tryz.sizeOf3
 have a5:=Tryz.isAgg68
 have z5:=Tryz.sizeOf68
 have hS : Tryz.prog.underlying 70 = some (.struct (Tryz.prog.fieldsOf 70)):=by kernel_rfl
 have hp : Tryz.prog.stoodInHeld 70 = false:=by kernel_rfl
 have hsp:=eqIn_span d y z y' z' w
 rw [show d + 3 = (d + 2) + 1 from rfl,run_equalIn_agg w (d + 2) 70 _ _ hS hp]
 simp only [Program.fieldsOf,Tryz.underlying70]
 go_simp
 unfold hit3
 by_cases h1 : x = x' <;> by_cases h2 : y = y' <;> by_cases h3 : z = z' <;> simp [h1,h2,h3,sp2]
@[go_sem high] theorem eq10_hit (x y z x' y' z' : Int) (w : World) :
 (Op.equalIn 10000 70 (.agg #[.int .i64 x,.int .i64 y,.int .i64 z]) (.agg #[.int .i64 x',.int .i64 y',.int .i64 z'])).run Tryz.prog w = .ok (hit3 x y z x' y' z') w:=eqIn_hit 9997 x y z x' y' z' w
end Go.Proofs.YthhcpbfgoofppaaGreatDoor
