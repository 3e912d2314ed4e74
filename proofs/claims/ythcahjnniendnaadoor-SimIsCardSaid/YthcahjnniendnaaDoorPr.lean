/-
  Plain facts about a run spot by spot, till no new one comes. No program in sight.
-/
import Derived.Test.YthcahjnniendnaaDoorPs
namespace Wf

/-- The spots that come of a spot: spot k is step k / (len + 1) at place k % (len + 1). -/
def nxt (p : List St) (s : List UInt8) (i a : Nat) : List Nat :=
  match p[i]? with
  | none => []
  | some st =>
    if st.op = 1 then (match s[a]? with
      | some b => if has st.cls b.toNat then [st.x.toNat * (s.length + 1) + (a + 1)] else []
      | none => [])
    else if st.op = 2 then [st.x.toNat * (s.length + 1) + a, st.y.toNat * (s.length + 1) + a]
    else if st.op = 3 then (if a = 0 then [st.x.toNat * (s.length + 1) + a] else [])
    else if st.op = 4 then (if a = s.length then [st.x.toNat * (s.length + 1) + a] else [])
    else []
def NX (p : List St) (s : List UInt8) (k k' : Nat) : Prop := k' ∈ nxt p s (k / (s.length + 1)) (k % (s.length + 1))
/-- A spot at which the run may end. -/
def DoneAt (p : List St) (i : Nat) : Prop := ∃ st, p[i]? = some st ∧ st.op = 5

theorem spot_lt {p n i a : Nat} (hi : i < p) (ha : a < n) : i * n + a < p * n := by
  have h1 : (i + 1) * n ≤ p * n := Nat.mul_le_mul_right n hi
  rw [Nat.succ_mul] at h1
  omega
theorem spot_div {n i a : Nat} (ha : a < n) : (i * n + a) / n = i := by
  rw [Nat.mul_comm, Nat.mul_add_div (by omega), Nat.div_eq_of_lt ha, Nat.add_zero]
theorem spot_mod {n i a : Nat} (ha : a < n) : (i * n + a) % n = a := by
  rw [Nat.mul_comm, Nat.mul_add_mod, Nat.mod_eq_of_lt ha]
theorem div_spot {p n k : Nat} (hk : k < p * n) : k / n < p := Nat.div_lt_of_lt_mul (by rw [Nat.mul_comm]; exact hk)

theorem nxt_lt {p : List St} (hp : okP p) {s : List UInt8} {i a : Nat} (ha : a < s.length + 1) : ∀ k ∈ nxt p s i a, k < p.length * (s.length + 1) := by
  intro k hk
  unfold nxt at hk
  cases hs : p[i]? with
  | none => rw [hs] at hk; cases hk
  | some st =>
    rw [hs] at hk
    obtain ⟨h1, h2, h3, _⟩ := oneP_zero (hp.2.2 st (List.mem_of_getElem? hs))
    simp only at hk
    split at hk
    · have hx := h2 (by omega)
      split at hk
      · rename_i b hb
        have := (List.getElem?_eq_some_iff.1 hb).1
        split at hk
        · obtain rfl : k = _ := by simpa using hk
          exact spot_lt (by omega) (by omega)
        · cases hk
      · cases hk
    · split at hk
      · have hx := h2 (by omega)
        have hy := h3 (by assumption)
        simp only [List.mem_cons, List.not_mem_nil, or_false] at hk
        rcases hk with rfl | rfl
        · exact spot_lt (by omega) ha
        · exact spot_lt (by omega) ha
      · split at hk
        · have hx := h2 (by omega)
          split at hk
          · obtain rfl : k = _ := by simpa using hk
            exact spot_lt (by omega) ha
          · cases hk
        · split at hk
          · have hx := h2 (by omega)
            split at hk
            · obtain rfl : k = _ := by simpa using hk
              exact spot_lt (by omega) ha
            · cases hk
          · cases hk
theorem nxt_len (p : List St) (s : List UInt8) (i a : Nat) : (nxt p s i a).length ≤ 2 := by
  unfold nxt
  repeat' split
  all_goals simp

/-- Between two rounds: the spots seen, the places at which a run was seen to end, the spots that wait. -/
structure RunO (p : List St) (s : List UInt8) (f : Nat) (D E : Nat → Bool) (qs : List Nat) : Prop where
  start : D f = true
  sound : ∀ x, D x = true → x < p.length * (s.length + 1) ∧ Star (NX p s) f x
  wait : ∀ q ∈ qs, D q = true
  closed : ∀ x, D x = true → x ∉ qs → ∀ y, NX p s x y → D y = true
  esound : ∀ a, E a = true → ∃ k, D k = true ∧ k % (s.length + 1) = a ∧ DoneAt p (k / (s.length + 1))
  eall : ∀ k, D k = true → k ∉ qs → DoneAt p (k / (s.length + 1)) → E (k % (s.length + 1)) = true
/-- Within a round: h has been taken; of what comes of it all but the rest has been seen. -/
structure RunI (p : List St) (s : List UInt8) (f : Nat) (D E : Nat → Bool) (h : Nat) (qs : List Nat) (more : List Nat) : Prop where
  start : D f = true
  sound : ∀ x, D x = true → x < p.length * (s.length + 1) ∧ Star (NX p s) f x
  here : D h = true
  wait : ∀ q ∈ qs, D q = true
  closed : ∀ x, D x = true → x ≠ h → x ∉ qs → ∀ y, NX p s x y → D y = true
  esound : ∀ a, E a = true → ∃ k, D k = true ∧ k % (s.length + 1) = a ∧ DoneAt p (k / (s.length + 1))
  eall : ∀ k, D k = true → k ∉ qs → DoneAt p (k / (s.length + 1)) → E (k % (s.length + 1)) = true
  now : ∀ y, NX p s h y → D y = true ∨ y ∈ more
  sub : ∀ y ∈ more, NX p s h y

section
variable {p : List St} {s : List UInt8} {f : Nat} {D E : Nat → Bool} {h : Nat} {qs more : List Nat}
theorem RunO.first (hp : okP p) (hf : f < s.length + 1) : RunO p s f (fun j => j == f) (fun _ => false) [f] := by
  have hlt : f < p.length * (s.length + 1) := by
    have := spot_lt (p := p.length) (n := s.length + 1) (i := 0) hp.1 hf
    simpa using this
  exact ⟨by simp, fun x hx => by simp at hx; subst hx; exact ⟨hlt, .refl _⟩, fun q hq => by simpa using hq, fun x hx hn => by simp at hx hn; exact absurd hx hn, fun a ha => (by cases ha), fun k hk hn _ => by simp at hk hn; exact absurd hk hn⟩
/-- A spot is taken: what comes of it is to be seen; where it is one at which a run ends its place is told. -/
theorem RunO.take (i : RunO p s f D E (h :: qs)) (E' : Nat → Bool) (hE : ∀ a, E' a = true ↔ E a = true ∨ (a = h % (s.length + 1) ∧ DoneAt p (h / (s.length + 1)))) : RunI p s f D E' h qs (nxt p s (h / (s.length + 1)) (h % (s.length + 1))) := by
  refine ⟨i.start, i.sound, i.wait h (by simp), fun q hq => i.wait q (by simp [hq]), fun x hx hne hn => i.closed x hx (by simp [hne, hn]), fun a ha => ?_, fun k hk hn hd => ?_, fun y hy => .inr hy, fun y hy => hy⟩
  · rcases (hE a).1 ha with ha | ⟨rfl, hd⟩
    · exact i.esound a ha
    · exact ⟨h, i.wait h (by simp), rfl, hd⟩
  · by_cases e : k = h
    · subst e; exact (hE _).2 (.inr ⟨rfl, hd⟩)
    · exact (hE _).2 (.inl (i.eall k hk (by simp [e, hn]) hd))
theorem RunI.skip {y : Nat} (i : RunI p s f D E h qs (y :: more)) (hy : D y = true) : RunI p s f D E h qs more :=
  ⟨i.start, i.sound, i.here, i.wait, i.closed, i.esound, i.eall, fun z hz => by
    rcases i.now z hz with hh | hh
    · exact .inl hh
    · rcases List.mem_cons.1 hh with rfl | hh
      · exact .inl hy
      · exact .inr hh, fun z hz => i.sub z (by simp [hz])⟩
theorem RunI.add {y : Nat} (i : RunI p s f D E h qs (y :: more)) (hb : ∀ k ∈ nxt p s (h / (s.length + 1)) (h % (s.length + 1)), k < p.length * (s.length + 1)) : RunI p s f (mark D y) E h (qs ++ [y]) more := by
  have up : ∀ x, D x = true → mark D y x = true := fun x hx => by simp [mark, hx]
  have hy := i.sub y (by simp)
  refine ⟨up _ i.start, fun x hx => ?_, up _ i.here, fun q hq => ?_, fun x hx hne hn z hz => ?_, fun a ha => ?_, fun k hk hn hd => ?_, fun z hz => ?_, fun z hz => i.sub z (by simp [hz])⟩
  · simp [mark] at hx
    rcases hx with rfl | hx
    · exact ⟨hb _ hy, .tail (i.sound h i.here).2 hy⟩
    · exact i.sound x hx
  · simp at hq
    rcases hq with hq | rfl
    · exact up _ (i.wait q hq)
    · simp [mark]
  · simp at hn
    simp [mark, hn.2] at hx
    exact up _ (i.closed x hx hne hn.1 z hz)
  · obtain ⟨k, h1, h2⟩ := i.esound a ha
    exact ⟨k, up _ h1, h2⟩
  · simp at hn
    simp [mark, hn.2] at hk
    exact i.eall k hk hn.1 hd
  · rcases i.now z hz with hh | hh
    · exact .inl (up _ hh)
    · rcases List.mem_cons.1 hh with rfl | hh
      · exact .inl (by simp [mark])
      · exact .inr hh
theorem RunI.close (i : RunI p s f D E h qs []) : RunO p s f D E qs :=
  ⟨i.start, i.sound, i.wait, fun x hx hn y hy => by
    by_cases e : x = h
    · subst e
      rcases i.now y hy with hh | hh
      · exact hh
      · cases hh
    · exact i.closed x hx e hn y hy, i.esound, i.eall⟩
end

theorem nx_eps {p : List St} {s : List UInt8} {i j a : Nat} (ha : a < s.length + 1) (h : Eps p (a == 0) (a == s.length) i j) : NX p s (i * (s.length + 1) + a) (j * (s.length + 1) + a) := by
  unfold NX
  rw [spot_div ha, spot_mod ha]
  obtain ⟨st, hs, h⟩ := h
  unfold nxt
  rw [hs]
  simp only
  rcases h with ⟨h1, h | h⟩ | ⟨h1, h2, h⟩ | ⟨h1, h2, h⟩
  · rw [show st.x.toNat = j by omega]; simp [h1]
  · rw [show st.y.toNat = j by omega]; simp [h1]
  · rw [show st.x.toNat = j by omega]
    have : a = 0 := by simpa using h2
    simp [h1, this]
  · rw [show st.x.toNat = j by omega]
    have : a = s.length := by simpa using h2
    simp [h1, this]
theorem nx_take {p : List St} {s : List UInt8} {k x a : Nat} {b : UInt8} {st : St} (hs : p[k]? = some st) (h1 : st.op = 1) (hb : s[a]? = some b) (hh : has st.cls b.toNat = true) (hx : (x : Int) = st.x) : NX p s (k * (s.length + 1) + a) (x * (s.length + 1) + (a + 1)) := by
  have := (List.getElem?_eq_some_iff.1 hb).1
  unfold NX
  rw [spot_div (by omega), spot_mod (by omega)]
  unfold nxt
  rw [hs]
  simp only
  rw [if_pos h1, hb]
  simp only
  rw [if_pos hh, show st.x.toNat = x by omega]
  simp

theorem seen_of {p : List St} {s : List UInt8} {f a j k : Nat} (hf : f < s.length + 1) (h : RunAt p s f a j) (hk : Star (Eps p (a == 0) (a == s.length)) j k) : Star (NX p s) f (k * (s.length + 1) + a) := by
  have eps : ∀ {a j k}, a < s.length + 1 → Star (Eps p (a == 0) (a == s.length)) j k → Star (NX p s) (j * (s.length + 1) + a) (k * (s.length + 1) + a) := by
    intro a j k ha h
    induction h with
    | refl => exact .refl _
    | tail _ hr ih => exact .tail ih (nx_eps ha hr)
  have main : ∀ {a j}, RunAt p s f a j → Star (NX p s) f (j * (s.length + 1) + a) := by
    intro a j h
    induction h with
    | start => rw [Nat.zero_mul, Nat.zero_add]; exact .refl _
    | @step i j k x b st h1 h2 h3 h4 h5 h6 h7 ih =>
      have := (List.getElem?_eq_some_iff.1 h5).1
      exact .tail (ih.trans (eps (by omega) h2)) (nx_take h3 h4 h5 h6 h7)
  exact (main h).trans (eps (by have := h.le (by omega); omega) hk)

theorem of_seen {p : List St} (hp : okP p) {s : List UInt8} {f k : Nat} (hf : f < s.length + 1) (h : Star (NX p s) f k) :
    ∃ j, RunAt p s f (k % (s.length + 1)) j ∧ Star (Eps p (k % (s.length + 1) == 0) (k % (s.length + 1) == s.length)) j (k / (s.length + 1)) := by
  refine Star.inv (P := fun k => ∃ j, RunAt p s f (k % (s.length + 1)) j ∧ Star (Eps p (k % (s.length + 1) == 0) (k % (s.length + 1) == s.length)) j (k / (s.length + 1))) h ?_ ?_
  · rw [Nat.mod_eq_of_lt hf, Nat.div_eq_of_lt hf]
    exact ⟨0, .start, .refl _⟩
  · rintro k k' ⟨j, h1, h2⟩ hr
    unfold NX at hr
    have ha : k % (s.length + 1) < s.length + 1 := Nat.mod_lt _ (by omega)
    generalize k % (s.length + 1) = a at *
    generalize k / (s.length + 1) = i at *
    unfold nxt at hr
    cases hs : p[i]? with
    | none => rw [hs] at hr; cases hr
    | some st =>
      rw [hs] at hr
      obtain ⟨_, q2, q3, _⟩ := oneP_zero (hp.2.2 st (List.mem_of_getElem? hs))
      have same : ∀ {y : Nat}, Eps p (a == 0) (a == s.length) i y → k' = y * (s.length + 1) + a →
          ∃ j, RunAt p s f (k' % (s.length + 1)) j ∧ Star (Eps p (k' % (s.length + 1) == 0) (k' % (s.length + 1) == s.length)) j (k' / (s.length + 1)) := by
        rintro y he rfl
        rw [spot_mod ha, spot_div ha]
        exact ⟨j, h1, .tail h2 he⟩
      simp only at hr
      split at hr
      · rename_i hop
        have hx := q2 (by omega)
        split at hr
        · rename_i b hb
          have hl := (List.getElem?_eq_some_iff.1 hb).1
          split at hr
          · rename_i hh
            obtain rfl : k' = _ := by simpa using hr
            rw [spot_mod (by omega), spot_div (by omega)]
            exact ⟨_, .step h1 h2 hs hop hb hh (by omega), .refl _⟩
          · cases hr
        · cases hr
      · split at hr
        · rename_i hop
          have hx := q2 (by omega)
          have hy := q3 hop
          simp only [List.mem_cons, List.not_mem_nil, or_false] at hr
          rcases hr with hr | hr
          · exact same ⟨st, hs, .inl ⟨hop, .inl (by omega)⟩⟩ hr
          · exact same ⟨st, hs, .inl ⟨hop, .inr (by omega)⟩⟩ hr
        · split at hr
          · rename_i hop
            have hx := q2 (by omega)
            split at hr
            · rename_i ha0
              exact same ⟨st, hs, .inr (.inl ⟨hop, by simpa using ha0, Int.toNat_of_nonneg (by omega)⟩)⟩ (by simpa using hr)
            · cases hr
          · split at hr
            · rename_i hop
              have hx := q2 (by omega)
              split at hr
              · rename_i ha0
                exact same ⟨st, hs, .inr (.inr ⟨hop, by simpa using ha0, Int.toNat_of_nonneg (by omega)⟩)⟩ (by simpa using hr)
              · cases hr
            · cases hr

/-- Nothing waits: the places told are those at which a run may end. -/
theorem RunO.done {p : List St} (hp : okP p) {s : List UInt8} {f : Nat} (hf : f < s.length + 1) {D E : Nat → Bool} (i : RunO p s f D E []) {a : Nat} (ha : a < s.length + 1) : E a = true ↔ EndsAt p s f a := by
  have all : ∀ k, Star (NX p s) f k → D k = true := fun k hk => Star.inv (P := fun x => D x = true) hk i.start fun x y hx hxy => i.closed x hx (by simp) y hxy
  constructor
  · intro h
    obtain ⟨k, h1, rfl, h3⟩ := i.esound a h
    obtain ⟨j, h4, h5⟩ := of_seen hp hf (i.sound k h1).2
    exact ⟨j, _, h4, h5, h3⟩
  · rintro ⟨j, k, h1, h2, h3⟩
    have h4 := all _ (seen_of hf h1 h2)
    have h5 := i.eall _ h4 (by simp)
    rw [spot_div ha, spot_mod ha] at h5
    exact h5 h3

end Wf
