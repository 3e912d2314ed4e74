/-
  The walks of package winnowfantop's one, word.
-/
import Derived.Test.YthcahjnniendnadGreatDoorGSwp
import Derived.Test.YthcahjnniendnadGreatDoorGSynJ
import Derived.Test.YthcahjnniendnadGreatDoorLaw
import Derived.Test.YthcahjnniendnadGreatDoorPone
import Derived.Test.YthcahjnniendnadGreatDoorPtw
namespace Go.Proofs.YthcahjnniendnadGreatDoor
open Go.RowKit Wf
open law (LawIs)
set_option linter.unusedVariables false

theorem readP_plus : readP ⟨#[97, 43]⟩ = some [⟨6, zc⟩, ⟨1, withB zc 97⟩] := readP_of (s := ⟨#[97, 43]⟩) (t := .plus (.byte (withB zc 97))) (by decide) plus_read (by simp [flat])

set_option maxRecDepth 100000 in
set_option maxHeartbeats 8000000 in
/-- The closed fact holds. -/
theorem One_c {ev : Value} (w : World) (hev : SynE ev w) : Calls Tryz.prog 9 #[] w (LawIs w) := by
  have HP := Lib.hid (Parse_some (ev := ev) ⟨#[97, 43]⟩ _ w hev readP_plus)
  unfold PNodes at HP
  have hsw : swapL ⟨#[98, 97, 97, 98]⟩ ⟨#[99]⟩ (spansO (ByteArray.mk #[98, 97, 97, 98]).data.toList (.plus (.byte (withB zc 97))) 0) = [98, 99, 98] := by
    rw [show (ByteArray.mk #[98, 97, 97, 98]).data.toList = [98, 97, 97, 98] from rfl, plus_spans]
    exact plus_swap
  have hck : chkSw [⟨6, zc⟩, ⟨1, withB zc 97⟩] ⟨#[98, 97, 97, 98]⟩ ⟨#[99]⟩ (spansO (ByteArray.mk #[98, 97, 97, 98]).data.toList (.plus (.byte (withB zc 97))) 0) = 0 := by
    unfold chkSw
    rw [hsw]
    have h1 : chkF [⟨6, zc⟩, ⟨1, withB zc 97⟩] (ByteArray.mk #[98, 97, 97, 98]).size = 0 := by
      unfold chkF
      rw [if_neg (by rw [show chk [⟨6, zc⟩, ⟨1, withB zc 97⟩] = 0 from chk_flat (.plus (.byte (withB zc 97))) (by simp [flat])]; simp), if_neg (by decide)]
    rw [if_neg (by rw [h1]; simp), if_neg (by decide), if_neg (by decide)]
  have HRP : Hid (∀ (v : Value) (W : World), RdN W v [⟨6, zc⟩, ⟨1, withB zc 97⟩] → Calls Tryz.prog 32 #[v, .string ⟨#[98, 97, 97, 98]⟩, .string ⟨#[99]⟩] W (ReplIs [98, 99, 98] W)) := Lib.hid fun v W h =>
    (repl_any [⟨6, zc⟩, ⟨1, withB zc 97⟩] (.plus (.byte (withB zc 97))) rfl (by simp) (by
      intro n hn
      rcases List.mem_cons.1 hn with rfl | hn
      · exact okC_zc
      · rw [List.mem_singleton.1 hn]; exact okC_with okC_zc 97) ⟨#[98, 97, 97, 98]⟩ ⟨#[99]⟩ (by decide) (by decide) v W h).mono (by
      rintro e w' (⟨_, h2⟩ | ⟨h1, _⟩)
      · rw [hsw] at h2; exact h2
      · rw [hck] at h1; cases h1)
  unfold ReplIs at HRP
  clear hev hsw hck
  go_enter Tryz.func9, Tryz.ntmps9
  go_wp2_with fail
  refine HP.out.mono ?_
  rintro e w1 ⟨g1, cap1, rfl, ho1, hb1⟩
  have HR1 := Lib.hid (HRP.out _ w1 (Rd.of_own ho1))
  have HB1 := Lib.hid hb1
  clear ho1 hb1 HP HRP
  go_wp2_with fail
  refine HR1.out.mono ?_
  rintro e w2 ⟨rfl, hb2⟩
  have HB2 := Lib.hid (HB1.out.trans (hb2.mono HB1.out.size))
  clear hb2
  go_wp2_with fail
  go_ret
  exact ⟨rfl, HB2.out⟩
end Go.Proofs.YthcahjnniendnadGreatDoor
