/-
  Walks: strconv.ParseUint at one hex digit.
-/
import Derived.Test.YthcahjnniendnabDoorSynA
import Derived.Test.YthcahjnniendnabDoorPu
namespace Go.Proofs.YthcahjnniendnabDoor
open Go.RowKit Wf

/-- What strconv.ParseUint reads as a hex digit. -/
def hexU (c : Nat) : Option Nat := if 48 ≤ c ∧ c ≤ 57 then some (c - 48) else if 65 ≤ c ∧ c ≤ 70 then some (c - 55) else if 97 ≤ c ∧ c ≤ 102 then some (c - 87) else none
theorem low_or : ∀ c : Fin 256, bits .or .u8 ((c.val : Nat) : Int) 32 = (((c.val ||| 32 : Nat)) : Int) := by decide +kernel
theorem low_hexF : ∀ (c : Fin 256) (a : Fin 16), hexU c.val = some a.val → (48 ≤ c.val ∧ c.val ≤ 57 ∧ c.val = a.val + 48) ∨ (¬ (48 ≤ c.val ∧ c.val ≤ 57) ∧ 10 ≤ a.val ∧ (c.val ||| 32) = a.val + 87 ∧ c.val ≠ 95) := by decide +kernel
theorem hexU_lt {c a : Nat} (h : hexU c = some a) : a < 16 ∧ c < 256 := by
  unfold hexU at h
  split at h
  · cases h; omega
  · split at h
    · cases h; omega
    · split at h
      · cases h; omega
      · cases h
theorem low_hex {c a : Nat} (h : hexU c = some a) : (48 ≤ c ∧ c ≤ 57 ∧ c = a + 48) ∨ (¬ (48 ≤ c ∧ c ≤ 57) ∧ 10 ≤ a ∧ (c ||| 32) = a + 87 ∧ c ≠ 95) := low_hexF ⟨c, (hexU_lt h).2⟩ ⟨a, (hexU_lt h).1⟩ h
theorem low_bad : ∀ c : Fin 256, hexU c.val = none → ¬ (48 ≤ c.val ∧ c.val ≤ 57) ∧ (c.val ||| 32) < 256 ∧ ((c.val ||| 32) < 97 ∨ 103 ≤ (c.val ||| 32)) := by decide +kernel

def LowIs (l : Nat) (w : World) (e : Ending) (w' : World) : Prop := e = .returned (.int .u8 (l : Int)) ∧ w = w'
theorem lower_c (c : Nat) (hc : c < 256) (w : World) : Calls Tryd.prog 171 #[.int .u8 (c : Int)] w (LowIs (c ||| 32) w) := by
  refine (AnyPu.internal_strconv_lower layLow (c : Int) w).mono ?_
  rintro e w' ⟨rfl, rfl⟩
  exact ⟨by rw [low_or ⟨c, hc⟩], rfl⟩

/-- The string is of the byte c alone, or begins with a byte that is no digit. -/
structure InU (t : ByteArray) (c : Nat) : Prop where
  lt : c < 256
  s0 : 0 < t.size
  s2 : t.size ≤ 2
  get : t.data.toList.getD 0 0 = UInt8.ofNat c

def InnerOk (a : Nat) (w : World) (e : Ending) (w' : World) : Prop := e = .returned (.tuple #[.int .u64 (a : Int), .nilIface]) ∧ Below w.heap.size w w'
def InnerBad (w : World) (e : Ending) (w' : World) : Prop := e = .returned (.tuple #[.int .u64 0, .iface 253 (.int .i64 2)]) ∧ Below w.heap.size w w'

theorem bytes_below (w : World) (t : ByteArray) : Below w.heap.size w (Lib.bytesWorld w 5 t) := Lib.bytesWorld_below w _ t

set_option maxRecDepth 100000 in
set_option maxHeartbeats 8000000 in
theorem inner_bad (t : ByteArray) (c : Nat) (ht : InU t c) (hh : hexU c = none) (h95 : c ≠ 95) (w : World) :
    Calls Tryd.prog 169 #[.string t, .int .i64 16, .int .i64 8] w (InnerBad w) := by
  have hb95 : ((c : Int) == 95) = false := by simp; omega
  obtain ⟨hc, h0, h2, hget⟩ := ht
  obtain ⟨hd, hl2, hl⟩ := low_bad ⟨c, hc⟩ hh
  have hd' : ¬ (48 ≤ c ∧ c ≤ 57) := hd
  have hl2' : c ||| 32 < 256 := hl2
  have hl' : c ||| 32 < 97 ∨ 103 ≤ c ||| 32 := hl
  have HLOW := Lib.hid (fun W => lower_c c hc W)
  have hemp : t.toList.isEmpty = false := by
    rw [← decide_eq_emptyBytes]
    exact decide_eq_false (fun h => absurd h0 (by rw [h]; decide))
  have hcv := Lib.run_convert_string_bytes (P := Tryd.prog) w 9 91 5 t (u := .string) Tryd.underlying9 Tryd.underlying91 Tryd.underlying5
  have hB := Lib.bytesWorld_cell w 5 t 0 h0
  have HBB := Lib.hid (bytes_below w t)
  rw [hget] at hB
  have hc2 : ((UInt8.ofNat c).toNat : Int) = (c : Int) := by simp; omega
  rw [hc2] at hB
  obtain ⟨W1, hW1⟩ : ∃ W1, W1 = Lib.bytesWorld w 5 t := ⟨_, rfl⟩
  rw [← hW1] at hcv hB HBB
  generalize hlv : c ||| 32 = l at HLOW hl2' hl'
  clear hW1 hget hd hl2 hl hlv hc2
  unfold InnerBad
  go_enter Tryd.func169, Tryd.ntmps169
  go_wp2
  go_loop [101] (fun vi => vi = .int .i64 0) (fun _ => 0)
  case atStart => rfl
  case round =>
    obtain rfl := hrel
    rcases hl' with hl' | hl'
    · go_wp2_with (go_at_call 171; refine (HLOW.out _).mono ?_; rintro e w' ⟨rfl, rfl⟩)
      all_goals go_ret2
      all_goals exact ⟨rfl, HBB.out⟩
    · go_wp2_with (go_at_call 171; refine (HLOW.out _).mono ?_; rintro e w' ⟨rfl, rfl⟩)
      all_goals go_ret2
      all_goals exact ⟨rfl, HBB.out⟩
set_option maxRecDepth 100000 in
set_option maxHeartbeats 8000000 in
theorem inner_us (t : ByteArray) (ht : InU t 95) (w : World) :
    Calls Tryd.prog 169 #[.string t, .int .i64 16, .int .i64 8] w (InnerBad w) := by
  obtain ⟨hc, h0, h2, hget⟩ := ht
  have HLOW : Hid (∀ W, Calls Tryd.prog 171 #[.int .u8 95] W (LowIs 127 W)) := Lib.hid (fun W => lower_c 95 (by decide) W)
  have hemp : t.toList.isEmpty = false := by
    rw [← decide_eq_emptyBytes]
    exact decide_eq_false (fun h => absurd h0 (by rw [h]; decide))
  have hcv := Lib.run_convert_string_bytes (P := Tryd.prog) w 9 91 5 t (u := .string) Tryd.underlying9 Tryd.underlying91 Tryd.underlying5
  have hB := Lib.bytesWorld_cell w 5 t 0 h0
  have HBB := Lib.hid (bytes_below w t)
  rw [hget] at hB
  have hc2 : ((UInt8.ofNat 95).toNat : Int) = 95 := by decide
  rw [hc2] at hB
  obtain ⟨W1, hW1⟩ : ∃ W1, W1 = Lib.bytesWorld w 5 t := ⟨_, rfl⟩
  rw [← hW1] at hcv hB HBB
  clear hW1 hget hc2
  unfold InnerBad
  go_enter Tryd.func169, Tryd.ntmps169
  go_wp2
  go_loop [101] (fun vi => vi = .int .i64 0) (fun _ => 0)
  case atStart => rfl
  case round =>
    obtain rfl := hrel
    go_wp2_with (go_at_call 171; refine (HLOW.out _).mono ?_; rintro e w' ⟨rfl, rfl⟩)
    all_goals go_ret2
    all_goals exact ⟨rfl, HBB.out⟩

set_option maxRecDepth 100000 in
set_option maxHeartbeats 8000000 in
theorem inner_ok (t : ByteArray) (c a : Nat) (ht : InU t c) (h1 : t.size = 1) (hh : hexU c = some a) (w : World) :
    Calls Tryd.prog 169 #[.string t, .int .i64 16, .int .i64 8] w (InnerOk a w) := by
  obtain ⟨hc, h0, h2, hget⟩ := ht
  have ha := (hexU_lt hh).1
  have hlow := low_hex hh
  have HLOW := Lib.hid (fun W => lower_c c hc W)
  have hemp : t.toList.isEmpty = false := by
    rw [← decide_eq_emptyBytes]
    exact decide_eq_false (fun h => absurd h0 (by rw [h]; decide))
  have hcv := Lib.run_convert_string_bytes (P := Tryd.prog) w 9 91 5 t (u := .string) Tryd.underlying9 Tryd.underlying91 Tryd.underlying5
  rw [h1] at hcv
  have hB := Lib.bytesWorld_cell w 5 t 0 h0
  have HBB := Lib.hid (bytes_below w t)
  rw [hget] at hB
  have hc2 : ((UInt8.ofNat c).toNat : Int) = (c : Int) := by simp; omega
  rw [hc2] at hB
  obtain ⟨W1, hW1⟩ : ∃ W1, W1 = Lib.bytesWorld w 5 t := ⟨_, rfl⟩
  rw [← hW1] at hcv hB HBB
  have hb95 : ((c : Int) == 95) = false := by simp; omega
  generalize hlv : c ||| 32 = l at HLOW hlow
  clear hW1 hget hlv hc2 hh h0 h2
  unfold InnerOk
  go_enter Tryd.func169, Tryd.ntmps169
  go_wp2
  go_loop [12, 13, 101] (fun vu vn vi => vu = .bool false ∧ ((vi = .int .i64 0 ∧ vn = .int .u64 0) ∨ (vi = .int .i64 1 ∧ vn = .int .u64 (a : Int)))) (fun _ _ vi => 1 - (intOf vi).toNat)
  case atStart => exact ⟨rfl, .inl ⟨rfl, rfl⟩⟩
  case round =>
    obtain ⟨rfl, hv⟩ := hrel
    rcases hv with ⟨rfl, rfl⟩ | ⟨rfl, rfl⟩
    · rcases hlow with ⟨d1, d2, d3⟩ | ⟨d1, d2, d3, d4⟩
      · have hsub : (c : Int) - 48 = (a : Int) := by omega
        go_wp2
        go_round
        case rel => exact ⟨rfl, .inr ⟨by go_num, by rw [← hsub]⟩⟩
        case measure => simp [intOf]
      · have hsub : (l : Int) - 97 + 10 = (a : Int) := by omega
        go_wp2_with (go_at_call 171; refine (HLOW.out _).mono ?_; rintro e w' ⟨rfl, rfl⟩)
        all_goals exact ⟨⟨rfl, .inr ⟨rfl, by congr 1; omega⟩⟩, by simp [intOf]⟩
    · go_wp2
      go_ret2
      exact ⟨rfl, HBB.out⟩
/-- What strconv.ErrSyntax holds. -/
def SynE (ev : Value) (w : World) : Prop := w.cell? ⟨5, 0, none⟩ = some ev ∧ (ev = .nilIface ∨ ∃ te pe, ev = .iface te pe)
theorem SynE.below {ev : Value} {w w' : World} (h : SynE ev w) (hb : Below w.heap.size w w') : SynE ev w' := ⟨(hb.cell (p := ⟨5, 0, none⟩) (World.block_lt_of_cell? w _ h.1)).trans h.1, h.2⟩

def ParseBad (w : World) (e : Ending) (w' : World) : Prop := ∃ N, e = .returned (.tuple #[.int .u64 0, .iface 256 (.pointer (some ⟨N, 0, none⟩))]) ∧ Below w.heap.size w w'

set_option maxRecDepth 100000 in
set_option maxHeartbeats 4000000 in
theorem parse_ok (t : ByteArray) (c a : Nat) (ht : InU t c) (h1 : t.size = 1) (hh : hexU c = some a) (w : World) :
    Calls Tryd.prog 168 #[.string t, .int .i64 16, .int .i64 8] w (InnerOk a w) := by
  have HI := Lib.hid (inner_ok t c a ht h1 hh w)
  clear ht h1 hh
  unfold InnerOk at *
  go_enter Tryd.func168, Tryd.ntmps168
  go_wp2_with (go_at_call 169; refine HI.out.mono ?_; rintro e w' ⟨rfl, hb⟩)
  go_ret2
  exact ⟨rfl, hb⟩
set_option maxRecDepth 100000 in
set_option maxHeartbeats 4000000 in
theorem parse_bad (t : ByteArray) (c : Nat) (ht : InU t c) (hh : hexU c = none) (w : World) (ev : Value) (hE : SynE ev w) :
    Calls Tryd.prog 168 #[.string t, .int .i64 16, .int .i64 8] w (ParseBad w) := by
  have hin : Calls Tryd.prog 169 #[.string t, .int .i64 16, .int .i64 8] w (InnerBad w) := by
    by_cases h : c = 95
    · subst h; exact inner_us t ht w
    · exact inner_bad t c ht hh h w
  have HI := Lib.hid hin
  have HT : Hid (∀ w', Below w.heap.size w w' → Calls Tryd.prog 170 #[.string ⟨#[80, 97, 114, 115, 101, 85, 105, 110, 116]⟩, .string t, .int .i64 16, .int .i64 8, .iface 253 (.int .i64 2)] w' fun e w2 => ∃ N, e = .returned (.iface 256 (.pointer (some ⟨N, 0, none⟩))) ∧ Below w'.heap.size w' w2) := Lib.hid (fun w' hb => by
    have h2 := ht.s2
    refine (AnyPu.strconv_toError_syntax layErr _ t 16 8 ev w' (by omega) (hE.below hb).1 hE.2).mono ?_
    rintro e w2 ⟨N, rfl, _, _, h3⟩
    exact ⟨N, rfl, h3⟩)
  clear ht hh hE hin
  unfold ParseBad
  unfold InnerBad at HI
  go_enter Tryd.func168, Tryd.ntmps168
  go_wp2_with (first
    | (go_at_call 169; refine HI.out.mono ?_; rintro e w1 ⟨rfl, hb1⟩)
    | (go_at_call 170; refine (HT.out w1 hb1).mono ?_; rintro e w2 ⟨N, rfl, hb2⟩))
  go_ret2
  exact ⟨N, rfl, hb1.trans (hb2.mono hb1.size)⟩
end Go.Proofs.YthcahjnniendnabDoor
