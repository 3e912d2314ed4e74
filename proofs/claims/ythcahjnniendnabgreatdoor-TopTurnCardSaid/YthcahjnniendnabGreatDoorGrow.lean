/-
  Walks of slices.Grow and slices.Concat at rows of nodes.
-/
import Derived.Test.YthcahjnniendnabGreatDoorGRex
import Derived.Laws.Append
import Derived.Deep.AppendLies
namespace Go.Proofs.YthcahjnniendnabGreatDoor
open Go.RowKit Wf

theorem info_node : (Tryz.prog.info? 43).map (fun i => (i.zero, i.size, i.bytes)) = some (some (.agg #[.int .i64 0, .int .u64 0, .int .u64 0, .int .u64 0, .int .u64 0]), 5, 40) := by kernel_rfl

theorem run_append_make_nil {P : Program} (w : World) (t ti ty e : TypeId) (i : TypeInfo) (z : Value) (k : IntKind) (ht : P.underlying t = some (.slice e)) (hti : P.underlying ti = some (.int k)) (hi : P.info? e = some i) (hz : i.zero = some z)
    (n : Nat) (h0 : 0 < n) (h63 : n ≤ 1000000) (h48 : n * i.bytes ≤ 281474976710656) (hne : n * i.size ≠ 0) :
    (Builtin.append_ #[t, ti] ty #[.slice none 0 0, .int .i64 (n : Int)]).run P w =
      .ok (.slice (some ⟨w.heap.size, 0, none⟩) n (grownCap w n 0 e)) (w.drew.alloc (.cells (Builtin.zeroCells z.cells n ++ Builtin.zeroCells z.cells (grownCap w n 0 e - n)) e)) := by
  have hn : n ≠ 0 := by omega
  have h63' : ¬ (9223372036854775807 < (n : Int)) := by omega
  have h48' : ¬ (281474976710656 < Builtin.nextslicecap n 0 * i.bytes) := by rw [nextslicecap_zero h0]; omega
  have hw : IntKind.i64.wrap (n : Int) = n := by rw [IntKind.wrap_i64]; omega
  have h1 : ¬ ((n : Int) < 0) := by omega
  have h2 : ¬ (281474976710656 < (n : Int) * (i.bytes : Int)) := by
    have : (n : Int) * (i.bytes : Int) = ((n * i.bytes : Nat) : Int) := by rw [Int.natCast_mul]
    omega
  simp [Builtin.append_, run_underlying ht, run_underlying hti, sizeOf, typeInfo, zeroValue, hi, hz, asInt, asIntOf, hw, h1, h2, hn, h63', h48', hne, Question.forced, run_firstCells_none, newRow, grownCap]

theorem wpList_append_make {P : Program} (w : World) {ops : Array Oper} {rest : List Oper} {o : Oper} {a : Act} {Q : Exit → Act → World → Prop} (hgd : o.guard = none) (s x : Operand) (t ti : TypeId)
    (ho : o.op = .call { callee := .builtin .append, args := #[s, x], argTypes := #[t, ti] }) (v u : Value) (hs : a.eval s = v) (hx : a.eval x = u) (r : Value) (w' : World)
    (hrun : (Builtin.append_ #[t, ti] o.type #[v, u]).run P w = .ok r w') (h : wpList P ops Q rest (a.put o.dst r) w') : wpList P ops Q (o :: rest) a w :=
  wpList_plain hgd fun _ hK => by
    unfold Oper.wp execOp
    simp only [ho, resolve, invoke, builtin, Sem.run_bind, Sem.run_pure, Result.andThen_ok, List.map_toArray, List.map_cons, List.map_nil, hs, hx, hrun]
    exact hK _ _ h

def GrowIs (n : Nat) (w : World) (e : Ending) (w' : World) : Prop :=
  ∃ g cap, e = .returned (.slice (some ⟨g, 0, none⟩) 0 cap) ∧ w'.ownsRow w.heap.size 43 5 (.slice (some ⟨g, 0, none⟩) 0 cap) 0 [] ∧ Below w.heap.size w w'

set_option maxRecDepth 100000 in
set_option maxHeartbeats 4000000 in
theorem Grow_any (n : Nat) (w : World) (h0 : 0 < n) (h1 : n ≤ 10000) : Calls Tryz.prog 59 #[.slice none 0 0, .int .i64 (n : Int)] w (GrowIs n w) := by
  obtain ⟨i0, hi0, hz0, hz1, hz2⟩ := info_parts info_node
  have hap := fun W => run_append_make_nil (P := Tryz.prog) W 22 3 22 43 i0 _ .i64 Tryz.underlying22 Tryz.underlying3 hi0 hz0 n h0 (by omega) (by rw [hz2]; omega) (by rw [hz1]; omega)
  have hfin : ∀ W : World, ∃ cap : Nat, cap = grownCap W n 0 43 ∧ n ≤ cap ∧ cap ≤ maxLen := fun W => ⟨_, rfl, grownCap_ge W n 0 _, grownCap_le_maxLen W n 0 _ (by unfold maxLen; omega)⟩
  obtain ⟨cap, hcap, hge, hle⟩ := hfin w
  have hle' : cap ≤ 9223372036854775807 := by unfold maxLen at hle; omega
  have hap' := hap w
  rw [← hcap] at hap'
  have hsz : ∀ z : Array Value, z.size = 5 → (Builtin.zeroCells z n ++ Builtin.zeroCells z (cap - n)).size = cap * 5 := fun z hz => by
    rw [Array.size_append, size_zeroCells, size_zeroCells, hz]; omega
  have HS := Lib.hid hsz
  have hge' : (n : Int) ≤ (cap : Int) := by omega
  have hn0 : (0 : Int) < (n : Int) := by omega
  have HAP := Lib.hid hap'
  clear hfin hcap hap hsz hi0 hz0 hz1 hz2 hap'
  go_enter Tryz.func59, Tryz.ntmps59
  go_wp2_with (at_builtin; refine wpList_append_make _ rfl (.tmp 20) (.tmp 21) _ _ rfl _ _ rfl rfl _ _ HAP.out ?_)
  go_ret
  refine ⟨_, cap, rfl, ?_, ?_⟩
  · exact World.ownsRow_made w.drew _ cap (Nat.le_refl _) hle (HS.out _ rfl)
  · exact ((Below.refl _ _).drew).alloc (Nat.le_refl _) _

end Go.Proofs.YthcahjnniendnabGreatDoor
