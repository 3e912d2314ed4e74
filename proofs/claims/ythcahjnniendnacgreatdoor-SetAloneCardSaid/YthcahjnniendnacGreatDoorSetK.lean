/-
  Scripts of steps on a set: what they come to; a row of them; the walk of play.
-/
import Derived.Test.YthcahjnniendnacGreatDoorGOp
import Derived.Test.YthcahjnniendnacGreatDoorGSetI
namespace Wf
/-- A step of a script. -/
structure Stp where
  what : Int
  text : ByteArray
  n : Int
/-- What a step comes to. -/
def SS.step (m : SS) (x : Stp) : SS :=
  if x.what = 0 ∨ x.what = 1 ∨ x.what = 2 then m.add x.text else if x.what = 3 then m.remove x.n else if x.what = 4 then { m with on := decide (x.n.tmod 2 = 0) } else m.scan x.text.data.toList
def SS.play (m : SS) (l : List Stp) : SS := l.foldl SS.step m
theorem SS.play_snoc (m : SS) {l : List Stp} {k : Nat} {x : Stp} (h : l[k]? = some x) : m.play (l.take (k + 1)) = (m.play (l.take k)).step x := by
  unfold SS.play
  rw [List.take_add_one, h, Option.toList_some, List.foldl_append]
  rfl
theorem SS.ok.step {m : SS} (h : m.ok) (x : Stp) : (m.step x).ok := by
  unfold SS.step
  split
  · exact h.add _
  · split
    · exact h.remove _
    · split
      · exact h.tried _ _
      · exact h.scan _
theorem SS.last_step (m : SS) (x : Stp) : m.last ≤ (m.step x).last ∧ (m.step x).last ≤ m.last + 1 := by
  unfold SS.step
  split
  · exact m.last_add _
  · split
    · rw [m.last_remove]; omega
    · split
      · show m.last ≤ m.last ∧ m.last ≤ m.last + 1; omega
      · rw [m.last_scan]; omega
theorem SS.last_play (l : List Stp) : ∀ m : SS, m.last ≤ (m.play l).last ∧ (m.play l).last ≤ m.last + l.length := by
  induction l with
  | nil => intro m; exact ⟨Nat.le_refl _, by show m.last ≤ m.last + 0; omega⟩
  | cons x r ih =>
    intro m
    have h1 := m.last_step x
    have h2 := ih (m.step x)
    show m.last ≤ ((m.step x).play r).last ∧ ((m.step x).play r).last ≤ m.last + (r.length + 1)
    omega
theorem SS.ok.play {m : SS} (h : m.ok) (l : List Stp) : (m.play l).ok := by
  unfold SS.play
  induction l generalizing m with
  | nil => exact h
  | cons x r ih => exact ih (h.step x)
end Wf
namespace Go.Proofs.YthcahjnniendnacGreatDoor.setW
open Go.RowKit Wf
open Go.ChangeShapes Go.WideShapes Go.ChangeAt Go.Deep
set_option linter.unusedVariables false

def stpCells (x : Stp) : List Value := [.int .i64 x.what, .string x.text, .int .i64 x.n]
def okStp (x : Stp) : Prop := (Lit.int .i64 x.what).wf = true ∧ x.text.size ≤ maxLen ∧ (Lit.int .i64 x.n).wf = true
theorem cellsOf_stp : Tryz.prog.cellsOf 73 = 3 := by kernel_rfl
abbrev RdT (w : World) (v : Value) (l : List Stp) : Prop := Rd w 3 v (l.flatMap stpCells)
theorem stps_len (l : List Stp) : (l.flatMap stpCells).length = l.length * 3 := flat_len stpCells 3 (fun _ => rfl) l
theorem stps_get (l : List Stp) : ∀ (k j : Nat) (h : Stp), l[k]? = some h → j < 3 → (l.flatMap stpCells)[k * 3 + j]? = (stpCells h)[j]? := by
  induction l with
  | nil => intro k j x h; simp at h
  | cons m r ih =>
    intro k j x h hj
    rcases k with _ | k
    · simp at h
      subst h
      simp only [List.flatMap_cons, Nat.zero_mul, Nat.zero_add]
      rw [List.getElem?_append_left (by simpa [stpCells] using hj)]
    · simp only [List.flatMap_cons]
      rw [List.getElem?_append_right (by simp [stpCells]; omega)]
      have e : (k + 1) * 3 + j - (stpCells m).length = k * 3 + j := by simp [stpCells]; omega
      rw [e]
      exact ih k j x (by simpa using h) hj
theorem stp_open {w : World} {v : Value} {l : List Stp} (h : RdT w v l) : ∃ (A : Option Addr) (cap : Nat), v = .slice A l.length cap ∧ l.length ≤ cap ∧ cap ≤ 9223372036854775807 ∧
    (0 < l.length → ∃ b off, A = some ⟨b, off, none⟩ ∧ b < w.heap.size ∧ ∀ (w' : World), (∀ o, w'.cell? ⟨b, o, none⟩ = w.cell? ⟨b, o, none⟩) → ∀ (k : Nat) (x : Stp), l[k]? = some x → w'.cell? ⟨b, off + k * 3, none⟩ = some (.int .i64 x.what) ∧ w'.cell? ⟨b, off + k * 3 + 1, none⟩ = some (.string x.text) ∧ w'.cell? ⟨b, off + k * 3 + 2, none⟩ = some (.int .i64 x.n)) := by
  obtain ⟨A, n, cap, rfl, h1, h2, h3, h4⟩ := h
  rw [stps_len] at h3
  obtain rfl : n = l.length := by omega
  refine ⟨A, cap, rfl, h1, h2, fun hn => ?_⟩
  obtain ⟨b, off, rfl, hc⟩ := h4 hn
  have hget : ∀ (k : Nat) (x : Stp), l[k]? = some x → ∀ j u, j < 3 → (stpCells x)[j]? = some u → w.cell? ⟨b, off + (k * 3 + j), none⟩ = some u := by
    intro k x hk j u hj hu
    exact hc _ _ (by rw [stps_get l k j _ hk hj]; exact hu)
  have hlt : b < w.heap.size := by
    have hl : l[0]? = some (l[0]'hn) := List.getElem?_eq_getElem hn
    exact World.block_lt_of_cell? w _ (hget 0 _ hl 0 _ (by omega) rfl)
  refine ⟨b, off, rfl, hlt, fun w' hw k x hk => ?_⟩
  simp only [hw]
  exact ⟨hget k x hk 0 _ (by omega) rfl, hget k x hk 1 _ (by omega) rfl, hget k x hk 2 _ (by omega) rfl⟩

section
variable {H : Type} {enc : TypeId × Value → H} {w : World} {base : Nat} {spare : Nat → Bool} {held : Bool}
set_option maxRecDepth 10000
theorem open_stp {fuel : Nat} {cs : List Value} {x : DataW H × List MemPlace} (h : DataW.trod enc Tryz.prog w base spare held fuel 73 cs = some x) :
    ∃ s : Stp, okStp s ∧ cs = stpCells s := by
  obtain ⟨xs, m, _, _, hl, hxl, hg⟩ := DataW.trod_struct Tryz.underlying73 h
  rw [cellsOf_stp] at hl
  obtain ⟨c0, c1, c2, rfl⟩ : ∃ a b c, cs = [a, b, c] := by
    match cs, hl with
    | [a, b, c], _ => exact ⟨a, b, c, rfl⟩
  have h0 := hg 0 _ rfl
  have h1 := hg 1 _ rfl
  have h2 := hg 2 _ rfl
  have hx0 : xs[0]? = some (xs[0]'(by rw [hxl]; decide)) := List.getElem?_eq_getElem _
  have hx1 : xs[1]? = some (xs[1]'(by rw [hxl]; decide)) := List.getElem?_eq_getElem _
  have hx2 : xs[2]? = some (xs[2]'(by rw [hxl]; decide)) := List.getElem?_eq_getElem _
  rw [hx0] at h0
  rw [hx1] at h1
  rw [hx2] at h2
  obtain ⟨a, e0, _, wa⟩ := DataW.trod_int Tryz.underlying3 h0
  obtain ⟨b, e1, _, wb⟩ := DataW.trod_string Tryz.underlying9 h1
  obtain ⟨c, e2, _, wc⟩ := DataW.trod_int Tryz.underlying3 h2
  simp [cellsOf_int] at e0
  simp [show Tryz.prog.cellsOf 9 = 1 by kernel_rfl] at e1
  simp [cellsOf_int] at e2
  subst e0
  subst e1
  subst e2
  exact ⟨⟨a, b, c⟩, ⟨wa, wb, wc⟩, rfl⟩
theorem open_stps {fuel : Nat} {A : Option Addr} {n cap : Nat} {x : DataW H × List MemPlace} (h : DataW.trod enc Tryz.prog w base spare held fuel 44 [.slice A n cap] = some x) :
    ∃ l : List Stp, RdT w (.slice A n cap) l ∧ ∀ s ∈ l, okStp s := by
  obtain ⟨l, h1, h2, h3⟩ := open_row stpCells okStp 3 (by omega) (fun _ => rfl) Tryz.underlying44 cellsOf_stp (fun {fuel} {cs} {x} hd => open_stp hd) h
  exact ⟨l, h1, h3⟩
end

/-- The set after a script. -/
def PlayTo (m : SS) (l : List Stp) (B b : Nat) (w : World) (e : Ending) (w' : World) : Prop := e = .returned (.tuple #[]) ∧ ∃ ml A, SetAt B b (m.play (l.take 30)) ml A w' ∧ SK B b w w'
set_option maxRecDepth 100000 in
set_option maxHeartbeats 8000000 in
theorem play_c {ev : Value} (B b : Nat) (m : SS) (ml : List Mr) (A : Value) (l : List Stp) (v : Value) (w0 w : World) (h : SetAt B b m ml A w) (hev : SynE ev w0) (hr : RdT w0 v l) (hok : ∀ x ∈ l, okStp x) (hl : m.last ≤ 1000) (h0 : Below w0.heap.size w0 w) (hB : w0.heap.size ≤ B) :
    Calls Tryz.prog 19 #[.pointer (some ⟨b, 0, none⟩), v] w (PlayTo m l B b w) := by
  obtain ⟨Ao, cap, rfl, hc1, hc2, hmem⟩ := stp_open hr
  have HM := Lib.hid hmem
  have H := Lib.hid h
  have HOK := Lib.hid hok
  have HEV := Lib.hid hev
  have HL := Lib.hid hl
  have HH0 := Lib.hid h0
  have HHB := Lib.hid hB
  clear h hmem hr hok hev hl h0 hB
  unfold PlayTo
  go_enter Tryz.func19, Tryz.ntmps19
  go_wp2_with fail
  go_loopw [4] (fun v4 wr => ∃ k : Nat, k ≤ l.length ∧ k ≤ 30 ∧ v4 = .int .i64 (k : Int) ∧ Hid (∃ ml A, SetAt B b (m.play (l.take k)) ml A wr ∧ SK B b w wr)) (fun i _ => 30 - (intOf i).toNat)
  case atStart => exact ⟨0, by omega, by omega, rfl, Lib.hid ⟨ml, A, H.out, SK.refl _ _ _⟩⟩
  case round =>
    obtain ⟨k, hk, hk30, rfl, HS⟩ := hrel
    by_cases hlk : k < l.length
    · by_cases h30 : k < 30
      · obtain ⟨ml', A', hs', hk'⟩ := HS.out
        obtain ⟨g, off, rfl, hg, hcs⟩ := HM.out (by omega)
        have hget : l[k]? = some (l[k]'hlk) := List.getElem?_eq_getElem hlk
        generalize l[k]'hlk = q at hget
        have hb0 : Below w0.heap.size w0 wr := HH0.out.trans (hk'.bel.mono HHB.out)
        obtain ⟨m0, m1, m2⟩ := hcs wr (fun o => hb0.cell (p := ⟨g, o, none⟩) hg) k q hget
        have hev' := HEV.out.below hb0
        have hlast := (SS.last_play (l.take k) m).2
        rw [List.length_take] at hlast
        have hl2 : (m.play (l.take k)).last < 1000000 := by have := HL.out; omega
        have hsn := m.play_snoc hget
        have HSN := Lib.hid hsn
        have HKK := Lib.hid hk'
        have HC := Lib.hid fun W (hb : SK B b wr W) => hb0.trans (hb.bel.mono HHB.out)
        have hwf := HOK.out q (List.mem_of_getElem? hget)
        obtain ⟨what, text, nn⟩ := q
        obtain ⟨hw1, _, hw2⟩ := hwf
        dsimp only at m0 m1 m2 hw1 hw2
        have HS' := Lib.hid hs'
        have HEV' := Lib.hid hev'
        have HL2 := Lib.hid hl2
        have k0 : (0 : Int) ≤ (k : Int) := by omega
        have k1 : (k : Int) < (l.length : Int) := by omega
        have k2 : decide ((k : Int) < (l.length : Int)) = true := by simp; omega
        have k3 : decide ((k : Int) < 30) = true := by simp; omega
        clear hget hcs hb0 hs' hk' hev' hl2 hlast hsn HS
        generalize m.play (l.take k) = mk at *
        unfold SS.step at HSN
        dsimp only at HSN
        by_cases w0 : what = 0
        · subst w0
          rw [if_pos (.inl rfl)] at HSN
          have HC1 := Lib.hid (Add_set B b mk ml' A' text wr HS'.out HEV'.out HL2.out)
          unfold SetTo at HC1
          clear HS' HEV' HL2 m2 HC
          go_wp2_with fail
          refine HC1.out.mono ?_
          rintro e w2 ⟨rfl, hs2⟩
          unfold addV
          obtain ⟨ml2, A2, h1, h2⟩ := hs2
          have H3 := Lib.hid h1
          have H4 := Lib.hid (HKK.out.trans h2)
          clear h1 h2
          go_wp2_with fail
          go_roundw
          case rel => exact ⟨k + 1, by omega, by omega, by go_num, Lib.hid ⟨ml2, A2, by rw [HSN.out]; exact H3.out, H4.out⟩⟩
          case measure => simp [intOf]; omega
        · have e0 : (what == (0 : Int)) = false := by rw [beq_eq_false_iff_ne]; exact w0
          by_cases w1 : what = 1
          · subst w1
            rw [if_pos (.inr (.inl rfl))] at HSN
            have HC1 := Lib.hid (Add_set B b mk ml' A' text wr HS'.out HEV'.out HL2.out)
            unfold SetTo at HC1
            clear HS' HEV' HL2 m2 HC
            go_wp2_with fail
            refine HC1.out.mono ?_
            rintro e w2 ⟨rfl, hs2⟩
            unfold addV
            obtain ⟨ml2, A2, h1, h2⟩ := hs2
            have H3 := Lib.hid h1
            have H4 := Lib.hid (HKK.out.trans h2)
            clear h1 h2
            go_wp2_with fail
            go_roundw
            case rel => exact ⟨k + 1, by omega, by omega, by go_num, Lib.hid ⟨ml2, A2, by rw [HSN.out]; exact H3.out, H4.out⟩⟩
            case measure => simp [intOf]; omega
          · have e1 : (what == (1 : Int)) = false := by rw [beq_eq_false_iff_ne]; exact w1
            by_cases w2 : what = 2
            · subst w2
              rw [if_pos (.inr (.inr rfl))] at HSN
              have HC1 := Lib.hid (Add_set B b mk ml' A' text wr HS'.out HEV'.out HL2.out)
              unfold SetTo at HC1
              clear HS' HEV' HL2 m2 HC
              go_wp2_with fail
              refine HC1.out.mono ?_
              rintro e w2 ⟨rfl, hs2⟩
              unfold addV
              obtain ⟨ml2, A2, h1, h2⟩ := hs2
              have H3 := Lib.hid h1
              have H4 := Lib.hid (HKK.out.trans h2)
              clear h1 h2
              go_wp2_with fail
              go_roundw
              case rel => exact ⟨k + 1, by omega, by omega, by go_num, Lib.hid ⟨ml2, A2, by rw [HSN.out]; exact H3.out, H4.out⟩⟩
              case measure => simp [intOf]; omega
            · have e2 : (what == (2 : Int)) = false := by rw [beq_eq_false_iff_ne]; exact w2
              by_cases w3 : what = 3
              · subst w3
                rw [if_neg (by decide), if_pos rfl] at HSN
                have HC1 := Lib.hid (Remove_set B b mk ml' A' nn wr HS'.out)
                unfold SetTo at HC1
                clear HS' HEV' HL2 HC
                generalize errV (mk.removed nn) = er at HC1
                go_wp2_with fail
                refine HC1.out.mono ?_
                rintro e w2 ⟨rfl, hs2⟩
                obtain ⟨ml2, A2, h1, h2⟩ := hs2
                have H3 := Lib.hid h1
                have H4 := Lib.hid (HKK.out.trans h2)
                clear h1 h2
                go_wp2_with fail
                go_roundw
                case rel => exact ⟨k + 1, by omega, by omega, by go_num, Lib.hid ⟨ml2, A2, by rw [HSN.out]; exact H3.out, H4.out⟩⟩
                case measure => simp [intOf]; omega
              · have e3 : (what == (3 : Int)) = false := by rw [beq_eq_false_iff_ne]; exact w3
                by_cases w4 : what = 4
                · subst w4
                  rw [if_neg (by decide), if_neg (by decide), if_pos rfl] at HSN
                  have HC1 := Lib.hid (Filter_set B b mk ml' A' (decide (nn.tmod 2 = 0)) wr HS'.out)
                  unfold SetIs at HC1
                  clear HS' HEV' HL2 HC
                  go_wp2_with fail
                  refine HC1.out.mono ?_
                  rintro e w2 ⟨rfl, hs2⟩
                  obtain ⟨ml2, A2, h1, h2⟩ := hs2
                  have H3 := Lib.hid h1
                  have H4 := Lib.hid (HKK.out.trans h2)
                  clear h1 h2
                  go_wp2_with fail
                  go_roundw
                  case rel => exact ⟨k + 1, by omega, by omega, by go_num, Lib.hid ⟨ml2, A2, by rw [HSN.out]; exact H3.out, H4.out⟩⟩
                  case measure => simp [intOf]; omega
                · have e4 : (what == (4 : Int)) = false := by rw [beq_eq_false_iff_ne]; exact w4
                  rw [if_neg (by rintro (h | h | h); exact w0 h; exact w1 h; exact w2 h), if_neg w3, if_neg w4] at HSN
                  clear w0 w1 w2 w3 w4
                  by_cases hsz : text.size ≤ 400
                  · have HC1 := Lib.hid (Scan_ok B b mk ml' A' text wr HS'.out hsz)
                    unfold ScanIs at HC1
                    clear HS' HEV' HL2 HC hsz
                    go_wp2_with fail
                    refine HC1.out.mono ?_
                    rintro e w2 ⟨v2, ml2, A2, rfl, _, h1, h2⟩
                    have hs2 : ∃ ml A, SetAt B b (mk.scan text.data.toList) ml A w2 ∧ SK B b wr w2 := ⟨ml2, A2, h1, h2⟩
                    clear h1 h2
                    obtain ⟨ml2, A2, h1, h2⟩ := hs2
                    have H3 := Lib.hid h1
                    have H4 := Lib.hid (HKK.out.trans h2)
                    clear h1 h2
                    go_wp2_with fail
                    go_roundw
                    case rel => exact ⟨k + 1, by omega, by omega, by go_num, Lib.hid ⟨ml2, A2, by rw [HSN.out]; exact H3.out, H4.out⟩⟩
                    case measure => simp [intOf]; omega
                  · have HC1 := Lib.hid (Scan_long B b mk ml' A' text wr HS'.out (by omega))
                    have hsl : text.data.toList.length = text.size := by simp
                    have hsc : mk.scan text.data.toList = mk := by unfold SS.scan; rw [if_neg (by rw [hsl]; exact hsz)]
                    rw [hsc] at HSN
                    have H3 := HS'
                    have H4 := HKK
                    clear HEV' HL2 HC hsz hsl hsc HS' HKK
                    go_wp2_with fail
                    refine HC1.out.mono ?_
                    rintro e w2 ⟨rfl, rfl⟩
                    go_wp2_with fail
                    go_roundw
                    case rel => exact ⟨k + 1, by omega, by omega, by go_num, Lib.hid ⟨ml', A', by rw [HSN.out]; exact H3.out, H4.out⟩⟩
                    case measure => simp [intOf]; omega
      · obtain rfl : k = 30 := by omega
        have k2 : decide (((30 : Nat) : Int) < (l.length : Int)) = true := by simp; omega
        go_wp2_with fail
        go_end0
        exact ⟨rfl, HS.out⟩
    · obtain rfl : k = l.length := by omega
      have k2 : decide ((l.length : Int) < (l.length : Int)) = false := by simp
      have HF : Hid (l.take l.length = l.take 30) := Lib.hid (by rw [List.take_length, List.take_of_length_le hk30])
      rw [HF.out] at HS
      go_wp2_with fail
      go_end0
      exact ⟨rfl, HS.out⟩
end Go.Proofs.YthcahjnniendnacGreatDoor.setW
