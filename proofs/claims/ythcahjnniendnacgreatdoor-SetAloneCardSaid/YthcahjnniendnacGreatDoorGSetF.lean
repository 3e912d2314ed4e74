/-
  SetF, SetH.
-/
import Derived.Test.YthcahjnniendnacGreatDoorGAll
import Derived.Test.YthcahjnniendnacGreatDoorGFind
import Derived.Test.YthcahjnniendnacGreatDoorGSetC
import Derived.Test.YthcahjnniendnacGreatDoorSetG
import Derived.Test.YthcahjnniendnacGreatDoorStrs
import Derived.Maps.AppendAt
/-
  Walks of package set: List.
-/
namespace Go.Proofs.YthcahjnniendnacGreatDoor.setW
open Go.RowKit Wf
set_option linter.unusedVariables false

theorem info_item : (Tryz.prog.info? 60).map (fun i => (i.zero, i.size, i.bytes)) = some (some (.agg #[.int .i64 0, .string ⟨#[]⟩]), 2, 24) := by kernel_rfl
def itCells (x : Mb) : List Value := [.int .i64 (x.id : Int), .string x.text]
theorem it_len (l : List Mb) : (l.flatMap itCells).length = l.length * 2 := by
  induction l with
  | nil => rfl
  | cons q r ih => simp [itCells] at ih ⊢; omega
theorem it_snoc (l : List Mr) (k : Nat) (q : Mr) (h : l[k]? = some q) : ((l.take (k + 1)).map (·.1)).flatMap itCells = ((l.take k).map (·.1)).flatMap itCells ++ itCells q.1 := by
  rw [take_snoc h, List.map_append, List.flatMap_append]
  simp
/-- The members' numbers and texts, in a row of its own. -/
def ItemsAre (m : SS) (w : World) (e : Ending) (w' : World) : Prop :=
  ∃ (v : Value), e = .returned v ∧ w'.ownsRow w.heap.size 60 2 v m.ms.length (m.ms.flatMap itCells) ∧ Below w.heap.size w w'
set_option maxRecDepth 100000 in
set_option maxHeartbeats 4000000 in
theorem List_set (B b : Nat) (m : SS) (ml : List Mr) (A : Value) (w : World) (h : SetAt B b m ml A w) :
    Calls Tryz.prog 20 #[.pointer (some ⟨b, 0, none⟩)] w (ItemsAre m w) := by
  obtain ⟨i0, hi0, hz0, hz1, hz2⟩ := info_parts info_item
  obtain ⟨Ao, cap, rfl, hc1, hc2, hmem⟩ := h.open_
  have hlen := h.len
  have c0 : w.cell? ⟨b, 0, none⟩ = some (.slice Ao ml.length cap) := h.blk.cell 0
  have HM := Lib.hid hmem
  have HMS := Lib.hid h.ms
  have hlt := h.lt
  clear h hmem
  unfold ItemsAre
  go_enter Tryz.func20, Tryz.ntmps20
  go_wp2_with fail
  go_loopw [3, 11] (fun v3 v11 wr => ∃ k : Nat, k ≤ ml.length ∧ v11 = .int .i64 (k : Int) ∧ Hid (wr.ownsRow w.heap.size 60 2 v3 k (((ml.take k).map (·.1)).flatMap itCells)) ∧ Hid (Below w.heap.size w wr)) (fun _ i _ => ml.length - (intOf i).toNat)
  case atStart => exact ⟨0, by omega, rfl, Lib.hid (World.ownsRow_nil _ _ _ _), Lib.hid (Below.refl _ _)⟩
  case round =>
    obtain ⟨k, hk, rfl, HO, HB⟩ := hrel
    by_cases hlk : k < ml.length
    · obtain ⟨g, rfl, hg, hcs⟩ := HM.out (by omega)
      have hget : ml[k]? = some (ml[k]'hlk) := List.getElem?_eq_getElem hlk
      generalize ml[k]'hlk = q at hget
      obtain ⟨m0, m1, m2, m3⟩ := hcs wr (fun o => HB.out.cell (p := ⟨g, o, none⟩) hg) k q hget
      have HIT := Lib.hid (it_snoc ml k q hget)
      have hil : Hid ((((ml.take k).map (·.1)).flatMap itCells).length = k * 2) := Lib.hid (by rw [it_len, List.length_map, List.length_take]; omega)
      obtain ⟨⟨id, tx, t⟩, ⟨ng, nc⟩, nd⟩ := q
      unfold rvOf at m2
      dsimp only at m0 m1 m2 m3
      have HIT2 : Hid (((ml.take (k + 1)).map (·.1)).flatMap itCells = ((ml.take k).map (·.1)).flatMap itCells ++ [.int .i64 (id : Int), .string tx]) := Lib.hid (by rw [HIT.out]; rfl)
      generalize (flat t).length = N at m2
      have k0 : (0 : Int) ≤ (k : Int) := by omega
      have k1 : (k : Int) < (ml.length : Int) := by omega
      have HBW := Lib.hid HB.out.size
      clear hget hcs HIT
      generalize ((ml.take k).map (·.1)).flatMap itCells = L at *
      have HR := Lib.hid ((HO.out.alloc (.cells #[.int .i64 (id : Int), .string tx, .slice (some ⟨ng, 0, none⟩) N nc, .string nd] 110)).alloc (.cells #[.int .i64 (id : Int), .string tx] 60))
      go_wp2_with (at_builtin; refine wpList_append_own_at _ rfl (.tmp 15) (.tmp 18) _ rfl w.heap.size 60 i0 _ 2 24 Tryz.underlying57 hi0 hz0 hz1 hz2 rfl (by omega) _ k L rfl HR.out ⟨wr.heap.size + 1, 0, none⟩ 1 1 [.int .i64 (id : Int), .string tx] rfl rfl (new_two _ _ _ _ _ (by simp)) (by intro u hu; simp at hu; rcases hu with rfl | rfl <;> rfl) (by unfold maxLen; omega) (by omega) (by have := HBW.out; simp; omega) ?_)
      intro v' w' hown' hg' _ hat'
      rw [← HIT2.out] at hown'
      have HO2 := Lib.hid hown'
      have HB2 := Lib.hid (below_own ((HB.out.alloc HBW.out _).alloc (by have := HBW.out; simp; omega) _) (Nat.le_refl _) (by have := HBW.out; simp; omega) HR.out hg')
      clear hown' hg' hat' HO HB HIT2 hil HR
      go_wp2_with fail
      go_roundw
      case rel => exact ⟨k + 1, by omega, by go_num, HO2, HB2⟩
      case measure => simp [intOf]; omega
    · obtain rfl : k = ml.length := by omega
      go_wp2_with fail
      go_ret
      refine ⟨_, rfl, ?_, HB.out⟩
      have := HO.out
      rw [List.take_length] at this
      rw [HMS.out, List.length_map]
      exact this
end Go.Proofs.YthcahjnniendnacGreatDoor.setW

/-
  Walks of package set: there's own function.
-/
namespace Go.Proofs.YthcahjnniendnacGreatDoor.setW
open Go.RowKit Wf
set_option linter.unusedVariables false

abbrev sv (x : ByteArray) : Value := .string x
theorem str_keyW : KeyK Tryz.prog 9 sv := string_key Tryz.underlying9
def one1 : Value := .int .i64 1
/-- What is there when some were told. -/
def lstOf (l : List ByteArray) (done : List (Nat × Nat)) : List (ByteArray × Value) := done.foldl (fun acc p => putL acc (l.getD p.1 ⟨#[]⟩) one1) [(⟨#[]⟩, one1)]
theorem lstOf_snoc (l : List ByteArray) (done : List (Nat × Nat)) (p : Nat × Nat) : lstOf l (done ++ [p]) = putL (lstOf l done) (l.getD p.1 ⟨#[]⟩) one1 := by simp [lstOf]
theorem fold_get (l : List ByteArray) (n : ByteArray) : ∀ (done : List (Nat × Nat)) (acc : List (ByteArray × Value)), getL (done.foldl (fun acc p => putL acc (l.getD p.1 ⟨#[]⟩) one1) acc) n = if ∃ p ∈ done, l.getD p.1 ⟨#[]⟩ = n then some one1 else getL acc n := by
  intro done
  induction done with
  | nil => intro acc; simp
  | cons p r ih =>
    intro acc
    rw [List.foldl_cons, ih, getL_put]
    by_cases h1 : ∃ q ∈ r, l.getD q.1 ⟨#[]⟩ = n
    · rw [if_pos h1, if_pos]
      obtain ⟨q, h1, h2⟩ := h1
      exact ⟨q, List.mem_cons_of_mem _ h1, h2⟩
    · rw [if_neg h1]
      by_cases h2 : n = l.getD p.1 ⟨#[]⟩
      · rw [if_pos h2, if_pos ⟨p, List.mem_cons_self .., h2.symm⟩]
      · rw [if_neg h2, if_neg]
        rintro ⟨q, h3, h4⟩
        rcases List.mem_cons.1 h3 with rfl | h3
        · exact h2 h4.symm
        · exact h1 ⟨q, h3, h4⟩
theorem lst_get (l : List ByteArray) (n : ByteArray) (done : List (Nat × Nat)) : getL (lstOf l done) n = if (∃ p ∈ done, l.getD p.1 ⟨#[]⟩ = n) ∨ n = ⟨#[]⟩ then some one1 else none := by
  unfold lstOf
  rw [fold_get]
  by_cases h1 : ∃ p ∈ done, l.getD p.1 ⟨#[]⟩ = n
  · rw [if_pos h1, if_pos (.inl h1)]
  · rw [if_neg h1]
    by_cases h2 : n = ⟨#[]⟩
    · rw [if_pos (.inr h2), h2]; simp [getL]
    · rw [if_neg (by rintro (h | h); exact h1 h; exact h2 h)]
      simp [getL, h2]

/-- What there's own function works on. -/
structure ThereAt (B : Nat) (M ob lb : Nat) (lv : Value) (l : List ByteArray) (done : List (Nat × Nat)) (W : World) : Prop where
  bM : B ≤ M
  out : Blk W ob 111 #[.map (some M)]
  box : Blk W lb 141 #[lv]
  row : W.ownsRow B 9 1 lv l.length (strVals l)
  mp : Mp W M sv (lstOf l done)
section
variable {B M ob lb : Nat} {lv : Value} {l : List ByteArray} {done : List (Nat × Nat)} {W W' : World}
theorem ThereAt.below (h : ThereAt B M ob lb lv l done W) (hb : Below W.heap.size W W') : ThereAt B M ob lb lv l done W' :=
  ⟨h.bM, h.out.kept hb, h.box.kept hb, h.row.kept (row := none) ⟨hb.os, hb.tape, hb.output, hb.size, fun i hi _ => hb.block i hi⟩ (by cases lv.ownBlock <;> simp), h.mp.below hb⟩
theorem not_cells {g : Nat} {t : TypeId} {cs : Array Value} {α : Type} {mk : α → Value} {m : List (α × Value)} (h : Blk W g t cs) (hm : Mp W M mk m) : some g ≠ some M := fun e => by
  injection e with e
  subst e
  obtain ⟨es, clock, hb, _⟩ := hm
  unfold Blk at h
  rw [h] at hb
  cases hb
theorem row_not {α : Type} {mk : α → Value} {m : List (α × Value)} {base n size : Nat} {e : TypeId} {v : Value} {xs : List Value} (h : W.ownsRow base e size v n xs) (hm : Mp W M mk m) : v.ownBlock = none ∨ v.ownBlock ≠ some M := by
  rcases h.2 with ⟨rfl, _⟩ | ⟨g, cap, cur, rfl, _, hgg, _⟩
  · exact .inl rfl
  · refine .inr fun e => ?_
    have : g = M := Option.some.inj e
    subst this
    obtain ⟨es, clock, hb, _⟩ := hm
    rw [hb] at hgg
    cases hgg
theorem ThereAt.more (h : ThereAt B M ob lb lv l done W) {p : Nat × Nat} {x : ByteArray} (hx : l[p.1]? = some x) (hg : W.grownBy W' (some M)) (hm : Mp W' M sv (putL (lstOf l done) x one1)) : ThereAt B M ob lb lv l (done ++ [p]) W' :=
  ⟨h.bM, blk_grown h.out hg (not_cells h.out h.mp), blk_grown h.box hg (not_cells h.box h.mp), h.row.kept hg (row_not h.row h.mp), by
    rw [lstOf_snoc, List.getD, hx]
    exact hm⟩
end
theorem tied_map {w0 w w' : World} {Nb M : Nat} {wv : Value} {root : Kn} {ws : List (List UInt8)} {Ks : List Kn} {bk ev : Kn → Value} {ch : Kn → List (Nat × Value)} {m : List (ByteArray × Value)} (h : Tied w0 Nb wv root ws Ks ch bk ev w) (hm : Mp w M sv m) (hM : w0.heap.size ≤ M) (hk : ∀ k ∈ Ks, k.m ≠ M) (hg : w.grownBy w' (some M)) : Tied w0 Nb wv root ws Ks ch bk ev w' := by
  refine ⟨h.net.grown hg (fun g e => by injection e with e; omega) (not_cells h.net.net hm) (fun k hkk => ⟨not_cells (h.net.blk k hkk) hm, fun e => hk k hkk (Option.some.inj e)⟩), h.tie, fun s hs => ?_⟩
  obtain ⟨xs, h1, h2⟩ := h.rows s hs
  exact ⟨xs, h1.kept hg (row_not h1.2 hm), h2⟩

set_option maxRecDepth 100000 in
theorem Th1_c (B M ob lb : Nat) (lv : Value) (l : List ByteArray) (done : List (Nat × Nat)) (W : World) (h : ThereAt B M ob lb lv l done W) (i e : Nat) (x : ByteArray) (hx : l[i]? = some x) :
    Calls Tryz.prog 71 #[.int .i64 (i : Int), .int .i64 (e : Int), .pointer (some ⟨ob, 0, none⟩), .pointer (some ⟨lb, 0, none⟩)] W (fun en w' => en = .returned (.tuple #[]) ∧ ThereAt B M ob lb lv l (done ++ [(i, e)]) w' ∧ W.drew.grownBy w' (some M)) := by
  have hil : i < l.length := (List.getElem?_eq_some_iff.1 hx).1
  have hd := h.below (Below.refl _ _).drew
  obtain ⟨A, cap, rfl, hc1, hc2, hm⟩ := str_open (Rd.of_own hd.row)
  obtain ⟨b, off, rfl, hbl, hcs⟩ := hm (by omega)
  have sc : W.drew.cell? ⟨b, off + i, none⟩ = some (.string x) := hcs W.drew (fun o => rfl) i x hx
  have wc : W.drew.cell? ⟨lb, 0, none⟩ = some (.slice (some ⟨b, off, none⟩) l.length cap) := hd.box.cell 0
  have oc : W.drew.cell? ⟨ob, 0, none⟩ = some (.map (some M)) := hd.out.cell 0
  obtain ⟨W3, hup, hmp3, hg3, hs3⟩ := hd.mp.update str_keyW Tryz.underlying111 x one1
  have HF : Hid (ThereAt B M ob lb (.slice (some ⟨b, off, none⟩) l.length cap) l (done ++ [(i, e)]) W3 ∧ W.drew.grownBy W3 (some M)) := Lib.hid ⟨hd.more hx hg3 hmp3, hg3⟩
  unfold one1 sv at hup
  replace hup : (Instr.mapUpdate 111 (.map (some M)) (.string x) (.int .i64 1)).run Tryz.prog W.drew = .ok () W3 := hup
  have k0 : (0 : Int) ≤ (i : Int) := by omega
  have k1 : (i : Int) < (l.length : Int) := by omega
  clear h hd hm hcs hx hmp3 hg3 hs3
  go_enter Tryz.func71, Tryz.ntmps71
  go_wp2_with fail
  go_region
  all_goals (
    go_wp2
    go_end0
    exact ⟨rfl, HF.out⟩)
end Go.Proofs.YthcahjnniendnacGreatDoor.setW
