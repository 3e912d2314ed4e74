/-
  The net while its knots are tied.
-/
import Derived.Test.YthcahjnniendnabConI
import Derived.Test.YthcahjnniendnabQueue
import Derived.Test.YthcahjnniendnabRg
import Derived.Test.YthcahjnniendnabTieP
namespace Go.Proofs.Ythcahjnniendnab
open Go.RowKit Wf

theorem upd_upd {β : Type} (f : Kn → β) (k : Kn) (a b : β) : upd (upd f k a) k b = upd f k b := by
  funext x
  unfold upd
  split <;> rfl
theorem OwnL.few {ws : List (List UInt8)} {n : Nat} {u : List UInt8} {xs : List Nat} (h : OwnL ws n u xs) (hn : n ≤ ws.length) : xs.length ≤ ws.length := by
  have := List.Nodup.length_le_of_subset h.1 (l₂ := List.range ws.length) (fun j hj => by have := ((h.2 j).1 hj).1; simp; omega)
  simpa using this
theorem EndL.few {ws : List (List UInt8)} {u : List UInt8} {xs : List Nat} (h : EndL ws u xs) : xs.length ≤ ws.length := by
  have := List.Nodup.length_le_of_subset h.1 (l₂ := List.range ws.length) (fun j hj => by
    obtain ⟨w, hw, _⟩ := (h.2 j).1 hj
    have := (List.getElem?_eq_some_iff.1 hw).1
    simp; omega)
  simpa using this

/-- The net while its knots are tied: D are dequeued, Q wait. -/
structure TieAt (w0 : World) (Nb : Nat) (wv : Value) (root : Kn) (ws : List (List UInt8)) (Ks : List Kn) (ch : Kn → List (Nat × Value)) (D Q : List Kn) (X : List UInt8 → Prop) (bk ev : Kn → Value) (w : World) : Prop where
  net : Net w0 Nb wv root Ks bk ev ch w
  ord : Walk Ks D Q X
  knots : ∀ u, Knot ws u ↔ ∃ k ∈ Ks, k.u = u
  back : ∀ s ∈ Ks, (s ∈ D ∨ s ∈ Q) → ∃ t ∈ Ks, (t ∈ D ∨ t ∈ Q) ∧ bk s = kptr t.b ∧ Bk ws s.u t.u
  rows : ∀ s ∈ Ks, ∃ xs, RowK w0 w (ev s) xs ∧ ((s ∈ D ∨ s ∈ Q) → EndL ws s.u xs) ∧ (¬ (s ∈ D ∨ s ∈ Q) → OwnL ws ws.length s.u xs)

section
variable {w0 w w' : World} {Nb : Nat} {wv : Value} {root k m r : Kn} {ws : List (List UInt8)} {Ks D Q : List Kn} {X : List UInt8 → Prop} {bk ev : Kn → Value} {ch : Kn → List (Nat × Value)}

theorem TieAt.par (h : TieAt w0 Nb wv root ws Ks ch D Q X bk ev w) : ∀ t ∈ Ks, t.u ≠ [] → ∃ s ∈ Ks, ∃ c, t.u = s.u ++ [c] := fun t ht hne => by
  obtain ⟨s, hs, c, _, e⟩ := h.net.par t ht hne
  exact ⟨s, hs, _, e⟩
/-- The tied knots as the step wants them. -/
theorem TieAt.tie (h : TieAt w0 Nb wv root ws Ks ch D Q X bk ev w) : Tie ws Ks bk (fun s => s ∈ D ∨ s ∈ Q) := ⟨h.knots, h.back⟩
/-- The begin: the root alone is tied, to itself. -/
theorem TieAt.start (h : NewAt w0 Nb wv root ws ws.length 0 Ks ev ch w) (hne : ∀ x ∈ ws, x ≠ []) : TieAt w0 Nb wv root ws Ks ch [] [root] (fun _ => False) (upd (fun _ => .pointer none) root (kptr root.b)) ev (w.setCell ⟨root.b, 1, none⟩ (kptr root.b)) := by
  have hint : 93 ≠ 3 := by decide
  refine ⟨h.net.setBack h.net.rt _, Walk.start h.net.rt h.net.ru h.net.iu, fun u => by rw [← PreK_end, h.pre], fun s hs ht => ?_, fun s hs => ?_⟩
  · obtain rfl : s = root := by
      rcases ht with ht | ht
      · cases ht
      · exact List.mem_singleton.1 ht
    refine ⟨s, hs, ht, by rw [upd_same], ?_⟩
    rw [h.net.ru]
    exact Bk.root ws
  · obtain ⟨xs, h1, h2⟩ := h.rows s hs
    refine ⟨xs, h2.kept (grown_set w _ _) (h2.not_blk (h.net.blk root h.net.rt) hint), fun ht => ?_, fun _ => h1⟩
    obtain rfl : s = root := by
      rcases ht with ht | ht
      · cases ht
      · exact List.mem_singleton.1 ht
    have he := EndL.root hne
    have : xs = [] := by
      rw [List.eq_nil_iff_forall_not_mem]
      intro a ha
      obtain ⟨_, hw⟩ := (h1.2 a).1 ha
      rw [h.net.ru] at hw
      exact hne _ (List.mem_of_getElem? hw) rfl
    rw [this, h.net.ru]
    exact he
/-- A world in which nothing of the net has turned. -/
theorem TieAt.moved (h : TieAt w0 Nb wv root ws Ks ch D Q X bk ev w) {row : Option Nat} (hg : w.grownBy w' row) (hr : ∀ g, row = some g → w0.heap.size ≤ g) (h1 : some Nb ≠ row) (h2 : ∀ k ∈ Ks, some k.b ≠ row ∧ some k.m ≠ row) (h3 : ∀ k ∈ Ks, (ev k).ownBlock = none ∨ (ev k).ownBlock ≠ row) :
    TieAt w0 Nb wv root ws Ks ch D Q X bk ev w' :=
  ⟨h.net.grown hg hr h1 h2, h.ord, h.knots, h.back, fun s hs => by
    obtain ⟨xs, q1, q2⟩ := h.rows s hs
    exact ⟨xs, q1.kept hg (h3 s hs), q2⟩⟩
theorem TieAt.below (h : TieAt w0 Nb wv root ws Ks ch D Q X bk ev w) (hb : Below w.heap.size w w') : TieAt w0 Nb wv root ws Ks ch D Q X bk ev w' :=
  h.moved (row := none) ⟨hb.os, hb.tape, hb.output, hb.size, fun i hi _ => hb.block i hi⟩ (fun _ e => by cases e) (by simp) (fun _ _ => by simp) (fun s _ => by cases (ev s).ownBlock <;> simp)
/-- A child of the head that has not come in yet. -/
theorem TieAt.fresh (h : TieAt w0 Nb wv root ws Ks ch D (k :: Q) X bk ev w) (hm : m ∈ Ks) {c : UInt8} (hmu : m.u = k.u ++ [c]) (hX : ¬ X m.u) : ¬ (m ∈ D ∨ m ∈ k :: Q) := by
  rw [h.ord.td m hm]
  have hk := h.ord.qk k (List.mem_cons_self ..)
  rintro (e | ⟨s, hs, x, e⟩ | e)
  · rw [hmu] at e; simp at e
  · rw [hmu] at e
    have := h.net.iu k hk s (h.ord.dk s hs) (snoc_inj e).1
    have hn := h.ord.nd
    rw [List.nodup_append] at hn
    exact hn.2.2 s hs k (List.mem_cons_self ..) this.symm
  · exact hX e
/-- A child of the head is tied. -/
theorem TieAt.more (h : TieAt w0 Nb wv root ws Ks ch D (k :: Q) X bk ev w) (hm : m ∈ Ks) {c : UInt8} (hmu : m.u = k.u ++ [c]) (hn : ¬ (m ∈ D ∨ m ∈ k :: Q)) (hr : r ∈ Ks) (hrt : r ∈ D ∨ r ∈ k :: Q) (hB : Bk ws m.u r.u)
    {xs ys : List Nat} {v : Value} (hx : OwnL ws ws.length m.u xs) (hy : EndL ws r.u ys) (hnet : Net w0 Nb wv root Ks (upd bk m (kptr r.b)) (upd ev m v) ch w') (hv : RowK w0 w' v (xs ++ ys))
    (hrows : ∀ s ∈ Ks, s ≠ m → ∀ zs, RowK w0 w (ev s) zs → RowK w0 w' (ev s) zs) : TieAt w0 Nb wv root ws Ks ch D (k :: (Q ++ [m])) (fun u => X u ∨ u = k.u ++ [c]) (upd bk m (kptr r.b)) (upd ev m v) w' := by
  have hup : ∀ t, t ∈ D ∨ t ∈ k :: Q → t ∈ D ∨ t ∈ k :: (Q ++ [m]) := fun t ht => by
    rcases ht with ht | ht
    · exact .inl ht
    · refine .inr ?_
      rw [← List.cons_append]
      exact List.mem_append_left _ ht
  have hdn : ∀ t, t ∈ D ∨ t ∈ k :: (Q ++ [m]) → t = m ∨ (t ∈ D ∨ t ∈ k :: Q) := fun t ht => by
    rw [← List.cons_append] at ht
    rcases ht with ht | ht
    · exact .inr (.inl ht)
    · rcases List.mem_append.1 ht with ht | ht
      · exact .inr (.inr ht)
      · exact .inl (List.mem_singleton.1 ht)
  refine ⟨hnet, h.ord.more hm hmu hn h.net.iu, h.knots, fun s hs ht => ?_, fun s hs => ?_⟩
  · by_cases e : s = m
    · rw [e, upd_same]
      exact ⟨r, hr, hup r hrt, rfl, hB⟩
    · rw [upd_other _ _ e]
      rcases hdn s ht with e' | ht
      · exact absurd e' e
      · obtain ⟨t, q1, q2, q3, q4⟩ := h.back s hs ht
        exact ⟨t, q1, hup t q2, q3, q4⟩
  · by_cases e : s = m
    · rw [e, upd_same]
      refine ⟨xs ++ ys, hv, fun _ => ?_, fun hno => ?_⟩
      · refine EndL.of_back ?_ hB hx hy
        rw [hmu]; simp
      · exact absurd (.inr (by rw [← List.cons_append]; exact List.mem_append_right _ (List.mem_singleton.2 rfl))) hno
    · rw [upd_other _ _ e]
      obtain ⟨zs, q1, q2, q3⟩ := h.rows s hs
      refine ⟨zs, hrows s hs e zs q1, fun ht => ?_, fun hno => q3 (fun ht => hno (hup s ht))⟩
      rcases hdn s ht with e' | ht
      · exact absurd e' e
      · exact q2 ht
/-- The head has gone. -/
theorem TieAt.gone (h : TieAt w0 Nb wv root ws Ks ch D (k :: Q) X bk ev w) (hX : ∀ t ∈ Ks, X t.u ↔ ∃ c, t.u = k.u ++ [c]) : TieAt w0 Nb wv root ws Ks ch (k :: D) Q (fun _ => False) bk ev w := by
  have hiff : ∀ t, (t ∈ k :: D ∨ t ∈ Q) ↔ (t ∈ D ∨ t ∈ k :: Q) := fun t => by
    simp only [List.mem_cons]
    constructor
    · rintro ((h | h) | h)
      · exact .inr (.inl h)
      · exact .inl h
      · exact .inr (.inr h)
    · rintro (h | h | h)
      · exact .inl (.inr h)
      · exact .inl (.inl h)
      · exact .inr h
  refine ⟨h.net, h.ord.gone hX, h.knots, fun s hs ht => ?_, fun s hs => ?_⟩
  · obtain ⟨t, q1, q2, q3, q4⟩ := h.back s hs ((hiff s).1 ht)
    exact ⟨t, q1, (hiff t).2 q2, q3, q4⟩
  · obtain ⟨xs, q1, q2, q3⟩ := h.rows s hs
    exact ⟨xs, q1, fun ht => q2 ((hiff s).1 ht), fun hn => q3 (fun ht => hn ((hiff s).2 ht))⟩

/-- The net with all knots tied. -/
structure Tied (w0 : World) (Nb : Nat) (wv : Value) (root : Kn) (ws : List (List UInt8)) (Ks : List Kn) (ch : Kn → List (Nat × Value)) (bk ev : Kn → Value) (w : World) : Prop where
  net : Net w0 Nb wv root Ks bk ev ch w
  tie : Tie ws Ks bk (fun _ => True)
  rows : ∀ s ∈ Ks, ∃ xs, RowK w0 w (ev s) xs ∧ EndL ws s.u xs
theorem TieAt.done (h : TieAt w0 Nb wv root ws Ks ch D [] (fun _ => False) bk ev w) : Tied w0 Nb wv root ws Ks ch bk ev w := by
  have hall := h.ord.done h.par
  refine ⟨h.net, ⟨h.knots, fun s hs _ => ?_⟩, fun s hs => ?_⟩
  · obtain ⟨t, q1, _, q3, q4⟩ := h.back s hs (.inl (hall s hs))
    exact ⟨t, q1, trivial, q3, q4⟩
  · obtain ⟨xs, q1, q2, _⟩ := h.rows s hs
    exact ⟨xs, q1, q2 (.inl (hall s hs))⟩
end
end Go.Proofs.Ythcahjnniendnab
