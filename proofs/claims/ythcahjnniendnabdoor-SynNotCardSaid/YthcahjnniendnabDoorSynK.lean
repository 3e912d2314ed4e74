/-
  syn.Parse told shortly: nodes or none; brackets; a hat.
-/
import Derived.Test.YthcahjnniendnabDoorSynJ
import Derived.Test.YthcahjnniendnabDoorPsq
namespace Go.Proofs.YthcahjnniendnabDoor
open Go.RowKit Wf

/-- What a text reads as: its nodes, or none. -/
def readP (s : ByteArray) : Option (List Nd) := if s.size ≤ 200 then match orS s.data.toList 0 with
  | .ok t j => if j = s.size ∧ (flat t).length ≤ 60 then some (flat t) else none
  | .bad _ => none
  else none
theorem readP_ok {s : ByteArray} {l : List Nd} (h : readP s = some l) : s.size ≤ 200 ∧ ∃ t, orS s.data.toList 0 = .ok t s.size ∧ (flat t).length ≤ 60 ∧ l = flat t := by
  unfold readP at h
  split at h
  · rename_i hs
    refine ⟨hs, ?_⟩
    cases hr : orS s.data.toList 0 with
    | bad k => rw [hr] at h; cases h
    | ok t j =>
      rw [hr] at h
      dsimp only at h
      split at h
      · rename_i hj
        exact ⟨t, by rw [hj.1], hj.2, (Option.some.inj h).symm⟩
      · cases h
  · cases h
theorem readP_of {s : ByteArray} {t : Rx} (hs : s.size ≤ 200) (hr : orS s.data.toList 0 = .ok t s.size) (hf : (flat t).length ≤ 60) : readP s = some (flat t) := by
  unfold readP
  rw [if_pos hs, hr]
  dsimp only
  rw [if_pos ⟨rfl, hf⟩]
theorem cat_data (a b : ByteArray) : (a ++ b).data.toList = a.data.toList ++ b.data.toList := by simp [ByteArray.data_append]
theorem readP_par {s : ByteArray} {l : List Nd} (h : readP s = some l) (hs : s.size + 2 ≤ 200) : readP ((⟨#[40]⟩ : ByteArray) ++ s ++ ⟨#[41]⟩) = some l := by
  obtain ⟨_, t, hr, hf, rfl⟩ := readP_ok h
  have hl : s.data.toList.length = s.size := by simp
  have hsz : ((⟨#[40]⟩ : ByteArray) ++ s ++ ⟨#[41]⟩).size = s.size + 2 := by
    rw [ByteArray.size_append, ByteArray.size_append]
    show 1 + s.size + 1 = _
    omega
  have hd : ((⟨#[40]⟩ : ByteArray) ++ s ++ ⟨#[41]⟩).data.toList = 40 :: (s.data.toList ++ [41]) := by rw [cat_data, cat_data]; rfl
  refine readP_of (by omega) ?_ hf
  rw [hd, hsz]
  rw [← hl] at hr ⊢
  exact orS_par hr
theorem readP_not {s : ByteArray} {n : Nd} (h : readP ((⟨#[91]⟩ : ByteArray) ++ s ++ ⟨#[93]⟩) = some [n]) (h94 : s.data.toList[0]? ≠ some 94) (h0 : 0 < s.size) (hop : n.op = 1) (hs : s.size + 3 ≤ 200) :
    readP ((⟨#[91, 94]⟩ : ByteArray) ++ s ++ ⟨#[93]⟩) = some [⟨1, notC n.cls⟩] := by
  obtain ⟨_, t, hr, hf, hn⟩ := readP_ok h
  have hl : s.data.toList.length = s.size := by simp
  have hsz1 : ((⟨#[91]⟩ : ByteArray) ++ s ++ ⟨#[93]⟩).size = s.size + 2 := by
    rw [ByteArray.size_append, ByteArray.size_append]
    show 1 + s.size + 1 = _
    omega
  have hd1 : ((⟨#[91]⟩ : ByteArray) ++ s ++ ⟨#[93]⟩).data.toList = 91 :: (s.data.toList ++ [93]) := by rw [cat_data, cat_data]; rfl
  have hsz2 : ((⟨#[91, 94]⟩ : ByteArray) ++ s ++ ⟨#[93]⟩).size = s.size + 3 := by
    rw [ByteArray.size_append, ByteArray.size_append]
    show 2 + s.size + 1 = _
    omega
  have hd2 : ((⟨#[91, 94]⟩ : ByteArray) ++ s ++ ⟨#[93]⟩).data.toList = 91 :: 94 :: (s.data.toList ++ [93]) := by rw [cat_data, cat_data]; rfl
  rw [hd1, hsz1, ← hl] at hr
  obtain ⟨c, hc, hr2⟩ := orS_not h94 (by omega) hr hn.symm hop
  subst hc
  have hcn : n.cls = c := by
    have : [n] = [(⟨1, c⟩ : Nd)] := hn
    rw [(List.cons.inj this).1]
  rw [hcn]
  refine readP_of (t := .byte (notC c)) (by omega) ?_ (by simp [flat])
  rw [hd2, hsz2, ← hl]
  exact hr2
theorem readP_fact : readP ⟨#[91, 94, 97, 93]⟩ = some [⟨1, notC (withB zc 97)⟩] := readP_of (s := ⟨#[91, 94, 97, 93]⟩) (t := .byte (notC (withB zc 97))) (by decide) fact_not (by simp [flat])

/-- The text reads as these nodes. -/
def PNodes (l : List Nd) (w : World) (e : Ending) (w' : World) : Prop :=
  ∃ g cap, e = .returned (.tuple #[.slice (some ⟨g, 0, none⟩) l.length cap, .int .i64 0, .nilIface]) ∧ OwnT w' w.heap.size (.slice (some ⟨g, 0, none⟩) l.length cap) l ∧ Below w.heap.size w w'
/-- It reads as none. -/
def PNone (w : World) (e : Ending) (w' : World) : Prop :=
  ∃ k n : Int, e = .returned (.tuple #[.slice none 0 0, .int .i64 k, .iface 23 (.int .i64 n)]) ∧ Below w.heap.size w w'
theorem Parse_some {ev : Value} (s : ByteArray) (l : List Nd) (w : World) (hev : SynE ev w) (h : readP s = some l) : Calls Tryd.prog 39 #[.string s] w (PNodes l w) := by
  obtain ⟨hs, t, hr, hf, rfl⟩ := readP_ok h
  refine (Parse_c s w hev).mono ?_
  rintro e w' ⟨hb, ⟨h1, _⟩ | ⟨_, t', h2, h3, _⟩ | ⟨_, t', g, cap, h2, h3, h4, h5⟩ | ⟨_, k, h2, _⟩⟩
  · omega
  · rw [hr] at h2; cases h2; omega
  · rw [hr] at h2; cases h2; exact ⟨g, cap, h4, h5, hb⟩
  · rcases h2 with h2 | ⟨t', h2, h3⟩
    · rw [hr] at h2; cases h2
    · rw [hr] at h2; cases h2; exact absurd rfl h3
theorem Parse_none {ev : Value} (s : ByteArray) (w : World) (hev : SynE ev w) (h : readP s = none) : Calls Tryd.prog 39 #[.string s] w (PNone w) := by
  refine (Parse_c s w hev).mono ?_
  rintro e w' ⟨hb, ⟨_, h1⟩ | ⟨_, t', _, _, h1⟩ | ⟨hs, t', g, cap, h2, h3, _, _⟩ | ⟨_, k, _, h1⟩⟩
  · exact ⟨_, _, h1, hb⟩
  · exact ⟨_, _, h1, hb⟩
  · rw [readP_of hs h2 h3] at h; cases h
  · exact ⟨_, _, h1, hb⟩
end Go.Proofs.YthcahjnniendnabDoor
