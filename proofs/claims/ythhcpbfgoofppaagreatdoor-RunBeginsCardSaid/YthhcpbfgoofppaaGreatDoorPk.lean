/-
  Plain facts about many words in one text: the longest beginning of a word that ends here, told knot by knot. No program in sight.
-/
import Derived.Test.YthhcpbfgoofppaaGreatDoorGPl
set_option linter.unusedVariables false
set_option linter.unusedSimpArgs false
namespace Wf
section
variable (ws : List (List UInt8))
def Knot (u : List UInt8) : Prop:=u = [] ∨ ∃ w ∈ ws,u <+: w
def LongSuf (t u : List UInt8) : Prop:=u <:+ t ∧ Knot ws u ∧ ∀ v,v <:+ t → Knot ws v → v.length ≤ u.length
def Bk (u v : List UInt8) : Prop:=LongSuf ws u.tail v
theorem Knot.of_snoc {ws : List (List UInt8)} {u : List UInt8} {b : UInt8} (h : Knot ws (u ++ [b])) : Knot ws u:=by
 rcases h with h | ⟨w,hw,h⟩
 ·simp at h
 ·exact .inr ⟨w,hw,(List.prefix_append u [b]).trans h⟩
theorem suf_len {a b t : List UInt8} (h1 : a <:+ t) (h2 : b <:+ t) (h : a.length ≤ b.length) : a <:+ b:=List.suffix_of_suffix_length_le h1 h2 h
theorem suf_eq {a b t : List UInt8} (h1 : a <:+ t) (h2 : b <:+ t) (h : a.length = b.length) : a = b:=(suf_len h1 h2 (Nat.le_of_eq h)).eq_of_length h
theorem suf_tail {a u : List UInt8} (h : a <:+ u) (hl : a.length < u.length) : a <:+ u.tail:=by
 obtain ⟨p,rfl⟩:=h
 cases p with
 | nil => simp at hl
 | cons x p => exact ⟨p,rfl⟩
theorem tail_suf (u : List UInt8) : u.tail <:+ u:=List.tail_suffix u
theorem suf_snoc {v t : List UInt8} {b : UInt8} (h : v <:+ t ++ [b]) : v = [] ∨ ∃ x,v = x ++ [b] ∧ x <:+ t:=by
 obtain ⟨p,h⟩:=h
 rcases List.eq_nil_or_concat v with rfl | ⟨x,c,rfl⟩
 ·exact .inl rfl
 ·right
  simp only [List.concat_eq_append,← List.append_assoc] at h
  have h1:=List.append_inj_left' h rfl
  have h2:=List.append_inj_right' h rfl
  simp only [List.cons.injEq,and_true] at h2
  exact ⟨x,by rw [List.concat_eq_append,h2],p,h1⟩
variable {ws : List (List UInt8)}
theorem LongSuf.nil (ws : List (List UInt8)) : LongSuf ws [] []:=⟨List.suffix_refl _,.inl rfl,fun v hv _ => by have:=hv.length_le;simpa using this⟩
theorem Bk.root (ws : List (List UInt8)) : Bk ws [] []:=LongSuf.nil ws
theorem Bk.one (ws : List (List UInt8)) (b : UInt8) : Bk ws [b] []:=LongSuf.nil ws
theorem Bk.lt {u v : List UInt8} (h : Bk ws u v) (hu : u ≠ []) : v.length < u.length:=by
 have h1:=h.1.length_le
 have h2:=List.length_pos_iff.2 hu
 rw [List.length_tail] at h1
 omega
def InStep (t : List UInt8) (b : UInt8) (u : List UInt8) : Prop:=u <:+ t ∧ Knot ws u ∧ ∀ v,v <:+ t → Knot ws (v ++ [b]) → v.length ≤ u.length
theorem LongSuf.step {t u : List UInt8} (h : LongSuf ws t u) (b : UInt8) : InStep (ws:=ws) t b u:=⟨h.1,h.2.1,fun v hv hk => h.2.2 v hv hk.of_snoc⟩
theorem InStep.back {t u v : List UInt8} {b : UInt8} (h : InStep (ws:=ws) t b u) (hn : ¬ Knot ws (u ++ [b])) (hb : Bk ws u v) : InStep (ws:=ws) t b v:=by
 refine ⟨(hb.1.trans (tail_suf u)).trans h.1,hb.2.1,fun x hx hk => ?_⟩
 have h1:=h.2.2 x hx hk
 have h2 : x.length ≠ u.length:=fun e => hn (by rw [← suf_eq hx h.1 e];exact hk)
 exact hb.2.2 x (suf_tail (suf_len hx h.1 h1) (by omega)) hk.of_snoc
theorem InStep.done {t u : List UInt8} {b : UInt8} (h : InStep (ws:=ws) t b u) (hk : Knot ws (u ++ [b])) : LongSuf ws (t ++ [b]) (u ++ [b]):=by
 refine ⟨?_,hk,fun v hv hkv => ?_⟩
 ·obtain ⟨p,hp⟩:=h.1
  exact ⟨p,by rw [← hp,List.append_assoc]⟩
 ·rcases suf_snoc hv with rfl | ⟨x,rfl,hx⟩
  ·simp
  ·have:=h.2.2 x hx hkv;simp;exact this
theorem InStep.none {t : List UInt8} {b : UInt8} (h : InStep (ws:=ws) t b []) (hk : ¬ Knot ws [b]) : LongSuf ws (t ++ [b]) []:=by
 refine ⟨List.nil_suffix,.inl rfl,fun v hv hkv => ?_⟩
 rcases suf_snoc hv with rfl | ⟨x,rfl,hx⟩
 ·simp
 ·have:=h.2.2 x hx hkv
  have hx0 : x = []:=List.eq_nil_of_length_eq_zero (by simpa using this)
  subst hx0
  exact absurd hkv hk
theorem Bk.snoc {u r : List UInt8} {b : UInt8} (hu : u ≠ []) (h : LongSuf ws (u.tail ++ [b]) r) : Bk ws (u ++ [b]) r:=by
 unfold Bk
 rw [List.tail_append_of_ne_nil hu]
 exact h
def EndL (ws : List (List UInt8)) (u : List UInt8) (l : List Nat) : Prop:=l.Nodup ∧ ∀ i,i ∈ l ↔ ∃ w,ws[i]? = some w ∧ w <:+ u
def OwnL (ws : List (List UInt8)) (n : Nat) (u : List UInt8) (l : List Nat) : Prop:=l.Nodup ∧ ∀ i,i ∈ l ↔ i < n ∧ ws[i]? = some u
theorem knot_word {i : Nat} {w : List UInt8} (h : ws[i]? = some w) : Knot ws w:=.inr ⟨w,List.mem_of_getElem? h,List.prefix_refl _⟩
theorem EndL.root (hne : ∀ w ∈ ws,w ≠ []) : EndL ws [] []:=by
 refine ⟨by simp,fun i => ⟨fun h => by (cases h),?_⟩⟩
 rintro ⟨w,hw,h⟩
 have : w = []:=List.eq_nil_of_length_eq_zero (by have:=h.length_le;simpa using this)
 exact absurd this (hne w (List.mem_of_getElem? hw))
theorem EndL.of_back {u v : List UInt8} {l l' : List Nat} (hu : u ≠ []) (hb : Bk ws u v) (ho : OwnL ws ws.length u l) (he : EndL ws v l') : EndL ws u (l ++ l'):=by
 have hv:=hb.lt hu
 refine ⟨?_,fun i => ?_⟩
 ·rw [List.nodup_append]
  refine ⟨ho.1,he.1,?_⟩
  rintro i hi j hj rfl
  have h1:=((ho.2 i).1 hi).2
  obtain ⟨w,h2,h3⟩:=(he.2 i).1 hj
  rw [h1] at h2
  cases h2
  have:=h3.length_le
  omega
 ·rw [List.mem_append,ho.2,he.2]
  constructor
  ·rintro (⟨_,h⟩ | ⟨w,h1,h2⟩)
   ·exact ⟨u,h,List.suffix_refl _⟩
   ·exact ⟨w,h1,(h2.trans hb.1).trans (tail_suf u)⟩
  ·rintro ⟨w,h1,h2⟩
   have hl:=h2.length_le
   by_cases e : w.length = u.length
   ·left
    have:=h2.eq_of_length e
    subst this
    exact ⟨(List.getElem?_eq_some_iff.1 h1).1,h1⟩
   ·right
    have h3:=suf_tail h2 (by omega)
    exact ⟨w,h1,suf_len h3 hb.1 (hb.2.2 w h3 (knot_word h1))⟩
theorem EndL.long {t u : List UInt8} {l : List Nat} (h : LongSuf ws t u) (he : EndL ws u l) : EndL ws t l:=by
 refine ⟨he.1,fun i => ?_⟩
 rw [he.2]
 constructor
 ·rintro ⟨w,h1,h2⟩;exact ⟨w,h1,h2.trans h.1⟩
 ·rintro ⟨w,h1,h2⟩;exact ⟨w,h1,suf_len h2 h.1 (h.2.2 w h2 (knot_word h1))⟩
def endAt (ws : List (List UInt8)) (t : List UInt8) : List Nat:=(List.range ws.length).filter fun i => (ws.getD i []).isSuffixOf t
theorem endAt_mem {t : List UInt8} {i : Nat} : i ∈ endAt ws t ↔ ∃ w,ws[i]? = some w ∧ w <:+ t:=by
 unfold endAt
 rw [List.mem_filter,List.mem_range]
 constructor
 ·rintro ⟨h1,h2⟩
  exact ⟨ws[i],List.getElem?_eq_getElem h1,by simpa [h1] using h2⟩
 ·rintro ⟨w,h1,h2⟩
  have h3:=(List.getElem?_eq_some_iff.1 h1).1
  exact ⟨h3,by simp [h1];exact h2⟩
theorem endAt_up (ws : List (List UInt8)) (t : List UInt8) : (endAt ws t).Pairwise (· < ·):=List.pairwise_lt_range.filter _
theorem endAt_len (ws : List (List UInt8)) (t : List UInt8) : (endAt ws t).length ≤ ws.length:=by
 have:=List.length_filter_le (fun i => (ws.getD i []).isSuffixOf t) (List.range ws.length)
 simpa [endAt] using this
theorem sorted_uniq : ∀ (a b : List Nat),a.Pairwise (· < ·) → b.Pairwise (· < ·) → (∀ j,j ∈ a ↔ j ∈ b) → a = b:=by
 intro a
 induction a with
 | nil =>
   intro b _ _ hm
   cases b with
   | nil => rfl
   | cons y b => have:=(hm y).2 (by simp);cases this
 | cons x a ih =>
   intro b ha hb hm
   cases b with
   | nil => have:=(hm x).1 (by simp);cases this
   | cons y b =>
     rw [List.pairwise_cons] at ha hb
     have e : x = y:=by
      have h1:=(hm x).1 (by simp)
      have h2:=(hm y).2 (by simp)
      rcases List.mem_cons.1 h1 with h1 | h1
      ·exact h1
      ·rcases List.mem_cons.1 h2 with h2 | h2
       ·exact h2.symm
       ·have:=hb.1 x h1;have:=ha.1 y h2;omega
     subst e
     rw [ih b ha.2 hb.2 fun j => ?_]
     constructor
     ·intro hj
      have:=(hm j).1 (by simp [hj])
      rcases List.mem_cons.1 this with rfl | h
      ·have:=ha.1 j hj;omega
      ·exact h
     ·intro hj
      have:=(hm j).2 (by simp [hj])
      rcases List.mem_cons.1 this with rfl | h
      ·have:=hb.1 j hj;omega
      ·exact h
def hitsAt (ws : List (List UInt8)) (t : List UInt8) (e : Nat) : List (Nat × Nat × Nat):=(endAt ws (t.take e)).map fun i => (i,e - (ws.getD i []).length,e)
def hitsTo (ws : List (List UInt8)) (t : List UInt8) (n : Nat) : List (Nat × Nat × Nat):=(List.range n).flatMap fun i => hitsAt ws t (i + 1)
theorem hitsTo_succ (ws : List (List UInt8)) (t : List UInt8) (n : Nat) : hitsTo ws t (n + 1) = hitsTo ws t n ++ hitsAt ws t (n + 1):=by
 simp [hitsTo,List.range_succ,List.flatMap_append]
end
end Wf
