/-
  The queue's order while the knots are tied: who is dequeued, who waits, who is tied.
-/
import Derived.Test.YthhcpbfgoofppaaGreatDoorGKn
set_option linter.unusedVariables false
set_option linter.unusedSimpArgs false
namespace Wf
structure Walk (Ks D Q : List Kn) (X : List UInt8 → Prop) : Prop where
 dk : ∀ k ∈ D,k ∈ Ks
 qk : ∀ k ∈ Q,k ∈ Ks
 nd : (D ++ Q).Nodup
 td : ∀ t ∈ Ks,(t ∈ D ∨ t ∈ Q) ↔ (t.u = [] ∨ (∃ s ∈ D,∃ c,t.u = s.u ++ [c]) ∨ X t.u)
 up : Q.Pairwise fun a b => a.u.length ≤ b.u.length
 near : ∀ d ∈ D,∀ k ∈ Q,d.u.length ≤ k.u.length
 top : ∀ k,Q.head? = some k → ∀ t ∈ Q,t.u.length ≤ k.u.length + 1
theorem Walk.start {Ks : List Kn} {root : Kn} (hr : root ∈ Ks) (hu : root.u = []) (iu : ∀ s ∈ Ks,∀ t ∈ Ks,s.u = t.u → s = t) : Walk Ks [] [root] (fun _ => False):=by
 refine ⟨by simp,by simpa using hr,by simp,fun t ht => ?_,by simp,by simp,?_⟩
 ·simp
  exact ⟨fun e => by rw [e];exact hu,fun e => iu t ht root hr (e.trans hu.symm)⟩
 ·intro k hk t ht
  simp at hk ht
  rw [ht,hk]
  omega
theorem Walk.all {Ks D Q : List Kn} {X : List UInt8 → Prop} {k : Kn} (h : Walk Ks D (k :: Q) X) (par : ∀ t ∈ Ks,t.u ≠ [] → ∃ s ∈ Ks,∃ c,t.u = s.u ++ [c]) : ∀ t ∈ Ks,t.u.length ≤ k.u.length → t ∈ D ∨ t ∈ k :: Q:=by
 have key : ∀ n,∀ t ∈ Ks,t.u.length = n → t.u.length ≤ k.u.length → t ∈ D ∨ t ∈ k :: Q:=by
  intro n
  induction n using Nat.strongRecOn with
  | _ n ih =>
    intro t ht hn hl
    refine (h.td t ht).2 ?_
    by_cases hu : t.u = []
    ·exact .inl hu
    ·obtain ⟨s,hs,c,hc⟩:=par t ht hu
     have hlen : t.u.length = s.u.length + 1:=by rw [hc];simp
     refine .inr (.inl ⟨s,?_,c,hc⟩)
     rcases ih s.u.length (by omega) s hs rfl (by omega) with hd | hq
     ·exact hd
     ·exfalso
      rcases List.mem_cons.1 hq with rfl | hq
      ·omega
      ·have:=(List.pairwise_cons.1 h.up).1 s hq
       omega
 exact fun t ht hl => key _ t ht rfl hl
theorem Walk.more {Ks D Q : List Kn} {X : List UInt8 → Prop} {k m : Kn} {c : UInt8} (h : Walk Ks D (k :: Q) X) (hm : m ∈ Ks) (hmu : m.u = k.u ++ [c]) (hn : ¬ (m ∈ D ∨ m ∈ k :: Q)) (iu : ∀ s ∈ Ks,∀ t ∈ Ks,s.u = t.u → s = t) :
 Walk Ks D (k :: (Q ++ [m])) (fun u => X u ∨ u = k.u ++ [c]):=by
 have hml : m.u.length = k.u.length + 1:=by rw [hmu];simp
 have e : D ++ k :: (Q ++ [m]) = (D ++ k :: Q) ++ [m]:=by simp
 refine ⟨h.dk,fun t ht => ?_,?_,fun t ht => ?_,?_,fun d hd t ht => ?_,fun r hr t ht => ?_⟩
 ·rcases List.mem_cons.1 ht with rfl | ht
  ·exact h.qk _ (List.mem_cons_self ..)
  ·rcases List.mem_append.1 ht with ht | ht
   ·exact h.qk _ (List.mem_cons_of_mem _ ht)
   ·rw [List.mem_singleton.1 ht];exact hm
 ·rw [e,List.nodup_append]
  refine ⟨h.nd,by simp,fun a ha b hb => ?_⟩
  rw [List.mem_singleton.1 hb]
  rintro rfl
  exact hn (List.mem_append.1 ha)
 ·have h1 : (t ∈ D ∨ t ∈ k :: (Q ++ [m])) ↔ (t ∈ D ∨ t ∈ k :: Q) ∨ t = m:=by
   simp only [List.mem_cons,List.mem_append,List.not_mem_nil,or_false]
   constructor
   ·rintro (h | h | h | h)
    ·exact .inl (.inl h)
    ·exact .inl (.inr (.inl h))
    ·exact .inl (.inr (.inr h))
    ·exact .inr h
   ·rintro ((h | h | h) | h)
    ·exact .inl h
    ·exact .inr (.inl h)
    ·exact .inr (.inr (.inl h))
    ·exact .inr (.inr (.inr h))
  have h2 : t = m ↔ t.u = k.u ++ [c]:=⟨fun e => by rw [e];exact hmu,fun e => iu t ht m hm (e.trans hmu.symm)⟩
  rw [h1,h.td t ht,h2]
  constructor
  ·rintro ((h | h | h) | h)
   ·exact .inl h
   ·exact .inr (.inl h)
   ·exact .inr (.inr (.inl h))
   ·exact .inr (.inr (.inr h))
  ·rintro (h | h | h | h)
   ·exact .inl (.inl h)
   ·exact .inl (.inr (.inl h))
   ·exact .inl (.inr (.inr h))
   ·exact .inr h
 ·rw [← List.cons_append,List.pairwise_append]
  refine ⟨h.up,by simp,fun a ha b hb => ?_⟩
  rw [List.mem_singleton.1 hb,hml]
  exact h.top k rfl a ha
 ·rcases List.mem_cons.1 ht with rfl | ht
  ·exact h.near d hd _ (List.mem_cons_self ..)
  ·rcases List.mem_append.1 ht with ht | ht
   ·exact h.near d hd t (List.mem_cons_of_mem _ ht)
   ·rw [List.mem_singleton.1 ht,hml]
    have:=h.near d hd k (List.mem_cons_self ..)
    omega
 ·simp at hr
  subst hr
  rcases List.mem_cons.1 ht with rfl | ht
  ·omega
  ·rcases List.mem_append.1 ht with ht | ht
   ·exact h.top k rfl t (List.mem_cons_of_mem _ ht)
   ·rw [List.mem_singleton.1 ht,hml]
    exact Nat.le_refl _
theorem Walk.gone {Ks D Q : List Kn} {X : List UInt8 → Prop} {k : Kn} (h : Walk Ks D (k :: Q) X) (hX : ∀ t ∈ Ks,X t.u ↔ ∃ c,t.u = k.u ++ [c]) : Walk Ks (k :: D) Q (fun _ => False):=by
 refine ⟨fun t ht => ?_,fun t ht => h.qk t (List.mem_cons_of_mem _ ht),?_,fun t ht => ?_,(List.pairwise_cons.1 h.up).2,fun d hd t ht => ?_,fun r hr t ht => ?_⟩
 ·rcases List.mem_cons.1 ht with rfl | ht
  ·exact h.qk _ (List.mem_cons_self ..)
  ·exact h.dk t ht
 ·have:=h.nd
  exact (List.perm_middle.nodup_iff).1 this
 ·have h1 : (t ∈ k :: D ∨ t ∈ Q) ↔ (t ∈ D ∨ t ∈ k :: Q):=by
   simp only [List.mem_cons]
   constructor
   ·rintro ((h | h) | h)
    ·exact .inr (.inl h)
    ·exact .inl h
    ·exact .inr (.inr h)
   ·rintro (h | h | h)
    ·exact .inl (.inr h)
    ·exact .inl (.inl h)
    ·exact .inr h
  rw [h1,h.td t ht,hX t ht]
  constructor
  ·rintro (h | ⟨s,hs,h⟩ | h)
   ·exact .inl h
   ·exact .inr (.inl ⟨s,List.mem_cons_of_mem _ hs,h⟩)
   ·exact .inr (.inl ⟨k,List.mem_cons_self ..,h⟩)
  ·rintro (h | ⟨s,hs,q⟩ | h)
   ·exact .inl h
   ·rcases List.mem_cons.1 hs with rfl | hs
    ·exact .inr (.inr q)
    ·exact .inr (.inl ⟨s,hs,q⟩)
   ·cases h
 ·rcases List.mem_cons.1 hd with rfl | hd
  ·exact (List.pairwise_cons.1 h.up).1 t ht
  ·exact h.near d hd t (List.mem_cons_of_mem _ ht)
 ·have hrm : r ∈ Q:=List.mem_of_mem_head? hr
  have h1:=h.top k rfl t (List.mem_cons_of_mem _ ht)
  have h2:=(List.pairwise_cons.1 h.up).1 r hrm
  omega
theorem Walk.done {Ks D : List Kn} (h : Walk Ks D [] (fun _ => False)) (par : ∀ t ∈ Ks,t.u ≠ [] → ∃ s ∈ Ks,∃ c,t.u = s.u ++ [c]) : ∀ t ∈ Ks,t ∈ D:=by
 have key : ∀ n,∀ t ∈ Ks,t.u.length = n → t ∈ D:=by
  intro n
  induction n using Nat.strongRecOn with
  | _ n ih =>
    intro t ht hn
    have : t ∈ D ∨ t ∈ []:=by
     refine (h.td t ht).2 ?_
     by_cases hu : t.u = []
     ·exact .inl hu
     ·obtain ⟨s,hs,c,hc⟩:=par t ht hu
      have hlen : t.u.length = s.u.length + 1:=by rw [hc];simp
      exact .inr (.inl ⟨s,ih s.u.length (by omega) s hs rfl,c,hc⟩)
    rcases this with h | h
    ·exact h
    ·cases h
 exact fun t ht => key _ t ht rfl
theorem walk_less {Ks D : List Kn} {k : Kn} (hk : k ∈ Ks) (hn : k ∉ D) : (Ks.filter fun t => decide (t ∉ k :: D)).length < (Ks.filter fun t => decide (t ∉ D)).length:=by
 have e : (Ks.filter fun t => decide (t ∉ k :: D)) = (Ks.filter fun t => decide (t ∉ D)).filter fun t => decide (t ≠ k):=by
  rw [List.filter_filter]
  congr 1
  funext t
  by_cases h1 : t = k <;> by_cases h2 : t ∈ D <;> simp [h1,h2]
 rw [e,List.length_filter_lt_length_iff_exists]
 exact ⟨k,by simp [hk,hn],by simp⟩
end Wf
