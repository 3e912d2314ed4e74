/-
  Walks of package syn: hex, one.
-/
import Derived.Test.YthcahjnniendnabDoorSynB
import Derived.Test.YthcahjnniendnabDoorIdx
namespace Go.Proofs.YthcahjnniendnabDoor
open Go.RowKit Wf

/-- A byte's own string, as the language makes it. -/
theorem enc_in : ∀ c : Fin 256, (Utf8.encode ((c.val : Nat) : Int)).size ≤ 2 ∧ 0 < (Utf8.encode ((c.val : Nat) : Int)).size ∧ (c.val < 128 → (Utf8.encode ((c.val : Nat) : Int)).data.toList.getD 0 0 = UInt8.ofNat c.val ∧ (Utf8.encode ((c.val : Nat) : Int)).size = 1) ∧
    (128 ≤ c.val → 128 ≤ ((Utf8.encode ((c.val : Nat) : Int)).data.toList.getD 0 0).toNat) := by decide +kernel
theorem conv_any (c : Nat) (hc : c < 256) (w : World) : (convert 21 9 (.int .i32 (c : Int))).run Tryd.prog w = .ok (.string (Utf8.encode (c : Int))) w := by
  simp [convert, run_underlying Tryd.underlying21, run_underlying Tryd.underlying9, Conv.intToString]
theorem hexU_hi {x : Nat} (h : 128 ≤ x) : hexU x = none := by
  unfold hexU
  rw [if_neg (by omega), if_neg (by omega), if_neg (by omega)]
theorem enc_u (c : Nat) (hc : c < 256) : ∃ d, InU (Utf8.encode (c : Int)) d ∧ (c < 128 → d = c ∧ (Utf8.encode (c : Int)).size = 1) ∧ (128 ≤ c → hexU d = none) := by
  have hE := enc_in ⟨c, hc⟩
  simp only at hE
  generalize Utf8.encode (c : Int) = t at hE ⊢
  obtain ⟨h1, h2, h3, h4⟩ := hE
  by_cases h : c < 128
  · obtain ⟨h5, h6⟩ := h3 h
    exact ⟨c, ⟨hc, h2, h1, h5⟩, fun _ => ⟨rfl, h6⟩, fun h' => by omega⟩
  · have h5 := h4 (by show 128 ≤ c; omega)
    exact ⟨(t.data.toList.getD 0 0).toNat, ⟨UInt8.toNat_lt _, h2, h1, by simp⟩, fun h' => absurd h' h, fun _ => hexU_hi h5⟩
/-- A hex digit here: not one of the great ones. -/
theorem hexV_of (c : UInt8) : (∀ a, hexV c = some a → hexU c.toNat = some a ∧ ¬ (65 ≤ c.toNat ∧ c.toNat ≤ 70) ∧ c.toNat < 128) ∧ (hexV c = none → hexU c.toNat = none ∨ (65 ≤ c.toNat ∧ c.toNat ≤ 70)) := by
  unfold hexV hexU
  constructor
  · intro a h
    split at h
    · rename_i q; rw [if_pos q]; exact ⟨h, by omega, by omega⟩
    · split at h
      · rename_i q; rw [if_neg (by omega), if_neg (by omega), if_pos q]; exact ⟨h, by omega, by omega⟩
      · cases h
  · intro h
    split at h
    · cases h
    · split at h
      · cases h
      · by_cases q : 65 ≤ c.toNat ∧ c.toNat ≤ 70
        · exact .inr q
        · left; rw [if_neg (by omega), if_neg q, if_neg (by omega)]

def HexIs (pb : Nat) (s : ByteArray) (i a : Nat) (w : World) (e : Ending) (w' : World) : Prop := e = .returned (.int .u8 (a : Int)) ∧ PW w pb s (i + 1) w'

set_option maxRecDepth 100000 in
set_option maxHeartbeats 4000000 in
theorem hex_none {pb : Nat} {s : ByteArray} {i : Nat} (w : World) (h : PW w pb s i w) (hs : s.size ≤ 200) (hi2 : i ≤ s.size) (hc : s.data.toList[i]? = none) (f : Nat) :
    Calls Tryd.prog 166 #[.pointer (some ⟨pb, 0, none⟩), .int .i64 (f : Int)] w (PS w pb s.size) := by
  have HN := Lib.hid (next_none w h hs hi2 hc)
  clear h hc
  unfold PS at *
  go_enter Tryd.func166, Tryd.ntmps166
  go_wp2_with (go_at_call 165; refine HN.out.mono ?_; rintro e w1 ⟨rfl, hb1⟩)
  exact ⟨rfl, rfl, hb1⟩

set_option maxRecDepth 100000 in
set_option maxHeartbeats 4000000 in
theorem hex_ok {pb : Nat} {s : ByteArray} {i : Nat} {c : UInt8} {a : Nat} (w : World) (h : PW w pb s i w) (hs : s.size ≤ 200) (hc : s.data.toList[i]? = some c) (hx : hexV c = some a) (f : Nat) :
    Calls Tryd.prog 166 #[.pointer (some ⟨pb, 0, none⟩), .int .i64 (f : Int)] w (HexIs pb s i a w) := by
  obtain ⟨hi, he⟩ := at_get hc
  have hbd : i + 1 ≤ 200 := by omega
  obtain ⟨hu, hno, hlt⟩ := (hexV_of c).1 a hx
  have ha := (hexU_lt hu).1
  have HN := Lib.hid (next_some w h hs hc)
  have hcv := fun W => conv_any c.toNat c.toNat_lt W
  obtain ⟨d, hd, hd1, _⟩ := enc_u c.toNat c.toNat_lt
  obtain ⟨rfl, hd2⟩ := hd1 hlt
  have HP := Lib.hid (fun W => parse_ok _ _ a hd hd2 hu W)
  generalize Utf8.encode ((c.toNat : Nat) : Int) = t at hcv HP
  have HE := Lib.hid he
  have hn1 : ((i + 1 : Nat) : Int) - 1 = (i : Int) := by push_cast; omega
  have hlo : c.toNat < 256 := c.toNat_lt
  clear h hc hx hu hd hd1 hd2 he
  have hget : s[i]'hi = c := HE.out
  unfold HexIs
  go_enter Tryd.func166, Tryd.ntmps166
  go_wp2_with (first
    | (go_at_call 165; refine HN.out.mono ?_; rintro e w1 ⟨rfl, hp1⟩)
    | (go_at_call 168; refine (HP.out w1).mono ?_; rintro e w2 ⟨rfl, hb2⟩; have hp2 := hp1.below hb2; have c0 := hp2.c0; have c1 := hp2.c1; have HP2 := Lib.hid hp2; clear hp1 hb2 hp2))
  go_quiet (fail)
  go_wp2
  all_goals go_ret
  all_goals exact ⟨rfl, HP2.out.below (below_drewN (Below.refl _ _) _)⟩

set_option maxRecDepth 100000 in
set_option maxHeartbeats 4000000 in
theorem hex_bad {pb : Nat} {s : ByteArray} {i : Nat} {c : UInt8} (w : World) (h : PW w pb s i w) (hs : s.size ≤ 200) (hc : s.data.toList[i]? = some c) (hx : hexV c = none) (f : Nat) (ev : Value) (hE : SynE ev w) (hEp : 5 ≠ pb) :
    Calls Tryd.prog 166 #[.pointer (some ⟨pb, 0, none⟩), .int .i64 (f : Int)] w (PS w pb f) := by
  obtain ⟨hi, he⟩ := at_get hc
  have hbd : i + 1 ≤ 200 := by omega
  have HN := Lib.hid (next_some w h hs hc)
  have hcv := fun W => conv_any c.toNat c.toNat_lt W
  obtain ⟨d, hd, hd1, hd2⟩ := enc_u c.toNat c.toNat_lt
  have HEV : Hid (∀ w', w.grownBy w' (some pb) → SynE ev w') := Lib.hid (fun w' hg => ⟨(World.grownBy.cell_far hg ⟨5, 0, none⟩ (World.block_lt_of_cell? w _ hE.1) (fun e => hEp (Option.some.inj e))).trans hE.1, hE.2⟩)
  have hget : s[i]'hi = c := he
  have hn1 : ((i + 1 : Nat) : Int) - 1 = (i : Int) := by push_cast; omega
  have hlo : c.toNat < 256 := c.toNat_lt
  by_cases hg : hexU d = none
  · have HP := Lib.hid (fun W (hE : SynE ev W) => parse_bad _ _ hd hg W ev hE)
    generalize Utf8.encode ((c.toNat : Nat) : Int) = t at hcv HP
    clear h hc hx hd hd1 hd2 he hg hE
    unfold PS stopV
    go_enter Tryd.func166, Tryd.ntmps166
    go_wp2_with (first
      | (go_at_call 165; refine HN.out.mono ?_; rintro e w1 ⟨rfl, hp1⟩)
      | (go_at_call 168; refine (HP.out w1 (HEV.out w1 hp1.grow)).mono ?_; rintro e w2 ⟨N, rfl, hb2⟩; have hp2 := hp1.below hb2; have c0 := hp2.c0; have c1 := hp2.c1; have HP2 := Lib.hid hp2; clear hp1 hb2 hp2))
    go_quiet (fail)
    go_wp2
    exact ⟨rfl, rfl, (HP2.out.below (below_drewN (Below.refl _ _) _)).grow⟩
  · have hlt : c.toNat < 128 := by
      rcases Nat.lt_or_ge c.toNat 128 with h1 | h1
      · exact h1
      · exact absurd (hd2 h1) hg
    obtain ⟨rfl, hd3⟩ := hd1 hlt
    obtain ⟨h65, h70⟩ : 65 ≤ c.toNat ∧ c.toNat ≤ 70 := by
      rcases (hexV_of c).2 hx with h1 | h1
      · exact absurd h1 hg
      · exact h1
    obtain ⟨a, hu⟩ := Option.ne_none_iff_exists'.1 hg
    have ha := (hexU_lt hu).1
    have HP := Lib.hid (fun W => parse_ok _ _ a hd hd3 hu W)
    generalize Utf8.encode ((c.toNat : Nat) : Int) = t at hcv HP
    clear h hc hx hd hd1 hd2 hd3 he hg hE hu
    unfold PS stopV
    go_enter Tryd.func166, Tryd.ntmps166
    go_wp2_with (first
      | (go_at_call 165; refine HN.out.mono ?_; rintro e w1 ⟨rfl, hp1⟩)
      | (go_at_call 168; refine (HP.out w1).mono ?_; rintro e w2 ⟨rfl, hb2⟩; have hp2 := hp1.below hb2; have c0 := hp2.c0; have c1 := hp2.c1; have HP2 := Lib.hid hp2; clear hp1 hb2 hp2))
    go_quiet (fail)
    go_wp2
    exact ⟨rfl, rfl, (HP2.out.below (below_drewN (Below.refl _ _) _)).grow⟩
end Go.Proofs.YthcahjnniendnabDoor
