/-
  words.New: the net of words.
-/
import Derived.Test.YthcahjnniendnacGreatDoorGKn
import Derived.Test.YthcahjnniendnacGreatDoorGPo
import Derived.Test.YthcahjnniendnacGreatDoorGRex
import Derived.Test.YthcahjnniendnacGreatDoorStrs
namespace Go.Proofs.YthcahjnniendnacGreatDoor
open Go.RowKit Wf

theorem upd_const {β : Type} (k : Kn) (v : β) : upd (fun _ => v) k v = fun _ => v := by
  funext x
  unfold upd
  split <;> rfl

/-- The net as it begins: its root alone. -/
theorem Net.start (w : World) (wv : Value) : Net w (w.heap.size + 2) wv ⟨w.heap.size + 1, w.heap.size, []⟩ [⟨w.heap.size + 1, w.heap.size, []⟩] (fun _ => .pointer none) (fun _ => .slice none 0 0) (fun _ => [])
    (((w.alloc (.map #[] 0)).alloc (.cells #[.map (some w.heap.size), .pointer none, .slice none 0 0] 188)).alloc (.cells #[kptr (w.heap.size + 1), wv] 190)) := by
  have hb2 : Blk ((w.alloc (.map #[] 0)).alloc (.cells #[.map (some w.heap.size), .pointer none, .slice none 0 0] 188)) (w.heap.size + 1) 188 #[.map (some w.heap.size), .pointer none, .slice none 0 0] := by
    have := Blk.new (w.alloc (.map #[] 0)) 188 #[.map (some w.heap.size), .pointer none, .slice none 0 0]
    simpa using this
  have hb3 := Blk.new ((w.alloc (.map #[] 0)).alloc (.cells #[.map (some w.heap.size), .pointer none, .slice none 0 0] 188)) 190 #[kptr (w.heap.size + 1), wv]
  have hm := (((Mp.new w byteW).below ((Below.refl _ _).alloc (Nat.le_refl _) (.cells #[.map (some w.heap.size), .pointer none, .slice none 0 0] 188))).below ((Below.refl _ _).alloc (Nat.le_refl _) (.cells #[kptr (w.heap.size + 1), wv] 190)))
  refine ⟨by simpa using hb3, by omega, List.mem_singleton.2 rfl, rfl, ?_, ?_, ?_, ?_, ?_, ?_, ?_, ?_, ?_, ?_, ?_⟩
  · intro k hk
    rw [List.mem_singleton.1 hk]
    exact hb2.alloc _
  · intro k hk
    rw [List.mem_singleton.1 hk]
    exact hm
  · intro k hk
    rw [List.mem_singleton.1 hk]
    exact Nat.le_succ _
  · intro k hk
    rw [List.mem_singleton.1 hk]
    exact Nat.le_refl _
  · intro s hs t ht _
    rw [List.mem_singleton.1 hs, List.mem_singleton.1 ht]
  · intro s hs t ht _
    rw [List.mem_singleton.1 hs, List.mem_singleton.1 ht]
  · intro s hs t ht _
    rw [List.mem_singleton.1 hs, List.mem_singleton.1 ht]
  · intro k _ c v hv
    cases hv
  · intro k hk t ht c _ e
    rw [List.mem_singleton.1 hk, List.mem_singleton.1 ht] at e
    have := congrArg List.length e
    simp at this
  · intro t ht hne
    rw [List.mem_singleton.1 ht] at hne
    exact absurd rfl hne
  · exact (((Below.refl _ _).alloc (Nat.le_refl _) _).alloc (by simp) _).alloc (by simp; omega) _

/-- A knot's row of words as it lies in memory: nil, or in a block of the net's own. -/
def RowK (w0 w : World) (v : Value) (xs : List Nat) : Prop := (v = .slice none 0 0 ↔ xs = []) ∧ w.ownsRow w0.heap.size 3 1 v xs.length (natVals xs)
theorem RowK.nil (w0 w : World) : RowK w0 w (.slice none 0 0) [] := ⟨by simp, World.ownsRow_nil _ _ _ _⟩
theorem RowK.kept {w0 w w' : World} {v : Value} {xs : List Nat} {row : Option Nat} (h : RowK w0 w v xs) (hg : w.grownBy w' row) (hn : v.ownBlock = none ∨ v.ownBlock ≠ row) : RowK w0 w' v xs := ⟨h.1, h.2.kept hg hn⟩
theorem RowK.below {w0 w w' : World} {v : Value} {xs : List Nat} (h : RowK w0 w v xs) (hb : Below w.heap.size w w') : RowK w0 w' v xs :=
  h.kept (row := none) ⟨hb.os, hb.tape, hb.output, hb.size, fun i hi _ => hb.block i hi⟩ (by cases v.ownBlock <;> simp)

/-- The net while it is made: the first i words are in it, and j letters of the next one. -/
structure NewAt (w0 : World) (Nb : Nat) (wv : Value) (root : Kn) (ws : List (List UInt8)) (i j : Nat) (Ks : List Kn) (ev : Kn → Value) (ch : Kn → List (Nat × Value)) (w : World) : Prop where
  net : Net w0 Nb wv root Ks (fun _ => .pointer none) ev ch w
  pre : ∀ u, PreK ws i j u ↔ ∃ k ∈ Ks, k.u = u
  rows : ∀ k ∈ Ks, ∃ xs, OwnL ws i k.u xs ∧ RowK w0 w (ev k) xs

theorem getL_dec {w0 w : World} {Nb : Nat} {wv : Value} {root k : Kn} {Ks : List Kn} {bk ev : Kn → Value} {ch : Kn → List (Nat × Value)} (h : Net w0 Nb wv root Ks bk ev ch w) (hk : k ∈ Ks) (c : UInt8) :
    (getL (ch k) c.toNat = none ∧ ∀ t ∈ Ks, t.u ≠ k.u ++ [c]) ∨ ∃ t ∈ Ks, getL (ch k) c.toNat = some (kptr t.b) ∧ t.u = k.u ++ [c] := by
  have hc : c.toNat < 256 := c.toNat_lt
  have he : UInt8.ofNat c.toNat = c := by simp
  cases hg : getL (ch k) c.toNat with
  | none =>
    refine .inl ⟨rfl, fun t ht e => ?_⟩
    have := h.all k hk t ht c.toNat hc (by rw [he]; exact e)
    rw [hg] at this
    cases this
  | some v =>
    obtain ⟨t, ht, rfl, _, hu⟩ := h.kids k hk _ v hg
    exact .inr ⟨t, ht, rfl, by rw [he] at hu; exact hu⟩
theorem fresh_own {ws : List (List UInt8)} {i j : Nat} {u : List UInt8} (hn : ¬ PreK ws i j u) : OwnL ws i u [] := by
  refine ⟨List.nodup_nil, fun a => ⟨(fun h => by cases h), ?_⟩⟩
  rintro ⟨ha, hau⟩
  exact absurd (.inr (.inl ⟨u, List.mem_of_getElem? (i := a) (by rw [List.getElem?_take_of_lt ha]; exact hau), List.prefix_refl _⟩)) hn

section
variable {w0 w w' : World} {Nb : Nat} {wv : Value} {root k : Kn} {ws : List (List UInt8)} {i j : Nat} {Ks : List Kn} {ev : Kn → Value} {ch : Kn → List (Nat × Value)} {wd : List UInt8} {c : UInt8}

theorem RowK.apart {v : Value} {xs : List Nat} {g : Nat} (h : RowK w0 w v xs) (hno : ∀ cur, w.heap[g]? ≠ some (.cells cur 3 (0, 0))) : v.ownBlock = none ∨ v.ownBlock ≠ some g := by
  rcases h.2.2 with ⟨rfl, _⟩ | ⟨b, cap, cur, rfl, _, hb, _⟩
  · exact .inl rfl
  · refine .inr fun e => ?_
    have e2 : b = g := by simpa [Value.ownBlock] using e
    exact hno cur (by rw [← e2]; exact hb)
theorem RowK.not_map {v : Value} {xs : List Nat} {m : Nat} {l : List (Nat × Value)} (h : RowK w0 w v xs) (hm : Mp w m byteW l) : v.ownBlock = none ∨ v.ownBlock ≠ some m := by
  obtain ⟨es, clock, hb, _⟩ := hm
  exact h.apart (fun cur e => by rw [hb] at e; cases e)
theorem RowK.not_blk {v : Value} {xs : List Nat} {g : Nat} {t : TypeId} {cs : Array Value} (h : RowK w0 w v xs) (hb : Blk w g t cs) (ht : t ≠ 3) : v.ownBlock = none ∨ v.ownBlock ≠ some g :=
  h.apart (fun cur e => by unfold Blk at hb; rw [hb] at e; cases e; exact ht rfl)

theorem NewAt.has (h : NewAt w0 Nb wv root ws i j Ks ev ch w) (hw : ws[i]? = some wd) (hc : wd[j]? = some c) {t : Kn} (ht : t ∈ Ks) (hu : t.u = wd.take j ++ [c]) : NewAt w0 Nb wv root ws i (j + 1) Ks ev ch w := by
  refine ⟨h.net, fun u => ?_, h.rows⟩
  rw [PreK_more hw hc, h.pre]
  constructor
  · rintro (h1 | rfl)
    · exact h1
    · exact ⟨t, ht, hu⟩
  · exact .inl
theorem NewAt.new (h : NewAt w0 Nb wv root ws i j Ks ev ch w) (hw : ws[i]? = some wd) (hc : wd[j]? = some c) (hk : k ∈ Ks) (hku : k.u = wd.take j) (hn : getL (ch k) c.toNat = none) {w1 : World}
    (hw1 : w1 = (w.alloc (.map #[] 0)).alloc (.cells #[.map (some w.heap.size), .pointer none, .slice none 0 0] 188)) {t : Kn} (ht : t = ⟨w.heap.size + 1, w.heap.size, k.u ++ [c]⟩)
    (hmp : Mp w' k.m byteW (putL (ch k) c.toNat (kptr t.b))) (hg : w1.grownBy w' (some k.m)) :
    NewAt w0 Nb wv root ws i (j + 1) (t :: Ks) (upd ev t (.slice none 0 0)) (upd (upd ch t []) k (putL (ch k) c.toNat (kptr t.b))) w' := by
  have he : UInt8.ofNat c.toNat = c := by simp
  obtain ⟨hnet, htn⟩ := h.net.insert hk (c := c.toNat) c.toNat_lt hn hw1 (by rw [he]; exact ht) hmp hg
  rw [upd_const] at hnet
  have hno : ∀ s ∈ Ks, s.u ≠ k.u ++ [c] := by
    rcases getL_dec h.net hk c with ⟨_, h1⟩ | ⟨t', _, h1, _⟩
    · exact h1
    · rw [hn] at h1; cases h1
  have hb1 : Below w.heap.size w w1 := by rw [hw1]; exact ((Below.refl _ _).alloc (Nat.le_refl _) _).alloc (by simp) _
  refine ⟨hnet, fun u => ?_, fun s hs => ?_⟩
  · rw [PreK_more hw hc, h.pre]
    constructor
    · rintro (⟨s, hs, h1⟩ | rfl)
      · exact ⟨s, List.mem_cons_of_mem _ hs, h1⟩
      · exact ⟨t, List.mem_cons_self .., by rw [ht, hku]⟩
    · rintro ⟨s, hs, h1⟩
      rcases List.mem_cons.1 hs with rfl | hs
      · exact .inr (by rw [← h1, ht, hku])
      · exact .inl ⟨s, hs, h1⟩
  · rcases List.mem_cons.1 hs with e | hs
    · rw [e, upd_same]
      refine ⟨[], fresh_own (j := j) (fun hp => ?_), RowK.nil _ _⟩
      obtain ⟨q, hq, hqu⟩ := (h.pre _).1 hp
      exact hno q hq (by rw [hqu, ht])
    · rw [upd_other _ _ (fun (e : s = t) => htn (by rw [← e]; exact hs))]
      obtain ⟨xs, h1, h2⟩ := h.rows s hs
      have h3 := h2.below hb1
      exact ⟨xs, h1, h3.kept hg (h3.not_map (((h.net.below hb1)).mp k hk))⟩
/-- The word that has come to its end is told at its knot. -/
theorem NewAt.word (h : NewAt w0 Nb wv root ws i wd.length Ks ev ch w) (hw : ws[i]? = some wd) (hnd : ws.Nodup) (hk : k ∈ Ks) (hku : k.u = wd) {v : Value} {w1 : World} (hb : Below w.heap.size w w1) (hv : RowK w0 w1 v [i]) :
    NewAt w0 Nb wv root ws (i + 1) 0 Ks (upd ev k v) ch (w1.setCell ⟨k.b, 2, none⟩ v) := by
  have hn1 := h.net.below hb
  have hg := grown_setK w1 ⟨k.b, 2, none⟩ v
  have hint : 188 ≠ 3 := by decide
  have hone : ∀ a : Nat, ws[a]? = some wd → a = i := fun a ha => by
    exact (List.getElem?_inj (List.getElem?_eq_some_iff.1 ha).1 hnd).1 (ha.trans hw.symm)
  refine ⟨hn1.setEnds hk v, fun u => ?_, fun s hs => ?_⟩
  · rw [PreK_next hw, h.pre]
  · by_cases e : s = k
    · rw [e, upd_same]
      refine ⟨[i], ⟨by simp, fun a => ?_⟩, hv.kept hg (hv.not_blk (hn1.blk k hk) hint)⟩
      rw [List.mem_singleton, hku]
      exact ⟨fun ha => by rw [ha]; exact ⟨Nat.lt_succ_self _, hw⟩, fun ⟨_, ha⟩ => hone a ha⟩
    · rw [upd_other _ _ e]
      obtain ⟨xs, h1, h2⟩ := h.rows s hs
      have h3 := h2.below hb
      refine ⟨xs, ⟨h1.1, fun a => ?_⟩, h3.kept hg (h3.not_blk (hn1.blk k hk) hint)⟩
      rw [h1.2]
      constructor
      · exact fun ⟨x, y⟩ => ⟨by omega, y⟩
      · rintro ⟨x, y⟩
        refine ⟨?_, y⟩
        rcases Nat.lt_or_ge a i with hlt | hge
        · exact hlt
        · exfalso
          obtain rfl : a = i := by omega
          rw [hw] at y
          exact e (h.net.iu s hs k hk ((Option.some.inj y).symm.trans hku.symm))
end

end Go.Proofs.YthcahjnniendnacGreatDoor
