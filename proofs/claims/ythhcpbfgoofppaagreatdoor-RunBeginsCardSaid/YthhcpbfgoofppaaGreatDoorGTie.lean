/-
  TieA, TieB.
-/
import Derived.Test.YthhcpbfgoofppaaGreatDoorGKd
import Derived.Test.YthhcpbfgoofppaaGreatDoorGQ
import Derived.Test.YthhcpbfgoofppaaGreatDoorGVals
import Derived.Test.YthhcpbfgoofppaaGreatDoorQueue
import Derived.Test.YthhcpbfgoofppaaGreatDoorTieP
import Derived.Deep.LoopGhost
import Derived.BigQuiet
set_option linter.unusedVariables false
set_option linter.unusedSimpArgs false
set_option maxRecDepth 100000
set_option maxHeartbeats 16000000
open Go.Lib (hid)
namespace Go.Proofs.YthhcpbfgoofppaaGreatDoor
open Go.RowKit Wf
theorem upd_upd {β : Type} (f : Kn → β) (k : Kn) (a b : β) : upd (upd f k a) k b = upd f k b:=by
 funext x
 unfold upd
 split <;> rfl
theorem OwnL.few {ws : List (List UInt8)} {n : Nat} {u : List UInt8} {xs : List Nat} (h : OwnL ws n u xs) (hn : n ≤ ws.length) : xs.length ≤ ws.length:=by
 have:=List.Nodup.length_le_of_subset h.1 (l₂:=List.range ws.length) (fun j hj => by have:=((h.2 j).1 hj).1;simp;omega)
 simpa using this
theorem EndL.few {ws : List (List UInt8)} {u : List UInt8} {xs : List Nat} (h : EndL ws u xs) : xs.length ≤ ws.length:=by
 have:=List.Nodup.length_le_of_subset h.1 (l₂:=List.range ws.length) (fun j hj => by
  obtain ⟨w,hw,_⟩:=(h.2 j).1 hj
  have:=(List.getElem?_eq_some_iff.1 hw).1
  simp;omega)
 simpa using this
structure TieAt (w0 : World) (Nb : Nat) (wv : Value) (root : Kn) (ws : List (List UInt8)) (Ks : List Kn) (ch : Kn → List (Nat × Value)) (D Q : List Kn) (X : List UInt8 → Prop) (bk ev : Kn → Value) (w : World) : Prop where
 net : Net w0 Nb wv root Ks bk ev ch w
 ord : Walk Ks D Q X
 knots : ∀ u,Knot ws u ↔ ∃ k ∈ Ks,k.u = u
 back : ∀ s ∈ Ks,(s ∈ D ∨ s ∈ Q) → ∃ t ∈ Ks,(t ∈ D ∨ t ∈ Q) ∧ bk s = kptr t.b ∧ Bk ws s.u t.u
 rows : ∀ s ∈ Ks,∃ xs,RowK w0 w (ev s) xs ∧ ((s ∈ D ∨ s ∈ Q) → EndL ws s.u xs) ∧ (¬ (s ∈ D ∨ s ∈ Q) → OwnL ws ws.length s.u xs)
section
variable {w0 w w' : World} {Nb : Nat} {wv : Value} {root k m r : Kn} {ws : List (List UInt8)} {Ks D Q : List Kn} {X : List UInt8 → Prop} {bk ev : Kn → Value} {ch : Kn → List (Nat × Value)}
theorem TieAt.par (h : TieAt w0 Nb wv root ws Ks ch D Q X bk ev w) : ∀ t ∈ Ks,t.u ≠ [] → ∃ s ∈ Ks,∃ c,t.u = s.u ++ [c]:=fun t ht hne => by
 obtain ⟨s,hs,c,_,e⟩:=h.net.par t ht hne
 exact ⟨s,hs,_,e⟩
theorem TieAt.tie (h : TieAt w0 Nb wv root ws Ks ch D Q X bk ev w) : Tie ws Ks bk (fun s => s ∈ D ∨ s ∈ Q):=⟨h.knots,h.back⟩
theorem TieAt.start (h : NewAt w0 Nb wv root ws ws.length 0 Ks ev ch w) (hne : ∀ x ∈ ws,x ≠ []) : TieAt w0 Nb wv root ws Ks ch [] [root] (fun _ => False) (upd (fun _ => .pointer none) root (kptr root.b)) ev (w.setCell ⟨root.b,1,none⟩ (kptr root.b)):=by
 have hint : 220 ≠ 3:=by decide
 refine ⟨h.net.setBack h.net.rt _,Walk.start h.net.rt h.net.ru h.net.iu,fun u => by rw [← PreK_end,h.pre],fun s hs ht => ?_,fun s hs => ?_⟩
 ·obtain rfl : s = root:=by
   rcases ht with ht | ht
   ·cases ht
   ·exact List.mem_singleton.1 ht
  refine ⟨s,hs,ht,by rw [upd_same],?_⟩
  rw [h.net.ru]
  exact Bk.root ws
 ·obtain ⟨xs,h1,h2⟩:=h.rows s hs
  refine ⟨xs,h2.kept (grown_setK w _ _) (h2.not_blk (h.net.blk root h.net.rt) hint),fun ht => ?_,fun _ => h1⟩
  obtain rfl : s = root:=by
   rcases ht with ht | ht
   ·cases ht
   ·exact List.mem_singleton.1 ht
  have he:=EndL.root hne
  have : xs = []:=by
   rw [List.eq_nil_iff_forall_not_mem]
   intro a ha
   obtain ⟨_,hw⟩:=(h1.2 a).1 ha
   rw [h.net.ru] at hw
   exact hne _ (List.mem_of_getElem? hw) rfl
  rw [this,h.net.ru]
  exact he
theorem TieAt.moved (h : TieAt w0 Nb wv root ws Ks ch D Q X bk ev w) {row : Option Nat} (hg : w.grownBy w' row) (hr : ∀ g,row = some g → w0.heap.size ≤ g) (h1 : some Nb ≠ row) (h2 : ∀ k ∈ Ks,some k.b ≠ row ∧ some k.m ≠ row) (h3 : ∀ k ∈ Ks,(ev k).ownBlock = none ∨ (ev k).ownBlock ≠ row) :
 TieAt w0 Nb wv root ws Ks ch D Q X bk ev w' :=
 ⟨h.net.grown hg hr h1 h2,h.ord,h.knots,h.back,fun s hs => by
   obtain ⟨xs,q1,q2⟩:=h.rows s hs
   exact ⟨xs,q1.kept hg (h3 s hs),q2⟩⟩
theorem TieAt.below (h : TieAt w0 Nb wv root ws Ks ch D Q X bk ev w) (hb : Below w.heap.size w w') : TieAt w0 Nb wv root ws Ks ch D Q X bk ev w' :=
 h.moved (row:=none) ⟨hb.os,hb.tape,hb.output,hb.size,fun i hi _ => hb.block i hi⟩ (fun _ e => by cases e) (by simp) (fun _ _ => by simp) (fun s _ => by cases (ev s).ownBlock <;> simp)
theorem TieAt.fresh (h : TieAt w0 Nb wv root ws Ks ch D (k :: Q) X bk ev w) (hm : m ∈ Ks) {c : UInt8} (hmu : m.u = k.u ++ [c]) (hX : ¬ X m.u) : ¬ (m ∈ D ∨ m ∈ k :: Q):=by
 rw [h.ord.td m hm]
 have hk:=h.ord.qk k (List.mem_cons_self ..)
 rintro (e | ⟨s,hs,x,e⟩ | e)
 ·rw [hmu] at e;simp at e
 ·rw [hmu] at e
  have:=h.net.iu k hk s (h.ord.dk s hs) (snoc_inj e).1
  have hn:=h.ord.nd
  rw [List.nodup_append] at hn
  exact hn.2.2 s hs k (List.mem_cons_self ..) this.symm
 ·exact hX e
theorem TieAt.more (h : TieAt w0 Nb wv root ws Ks ch D (k :: Q) X bk ev w) (hm : m ∈ Ks) {c : UInt8} (hmu : m.u = k.u ++ [c]) (hn : ¬ (m ∈ D ∨ m ∈ k :: Q)) (hr : r ∈ Ks) (hrt : r ∈ D ∨ r ∈ k :: Q) (hB : Bk ws m.u r.u)
 {xs ys : List Nat} {v : Value} (hx : OwnL ws ws.length m.u xs) (hy : EndL ws r.u ys) (hnet : Net w0 Nb wv root Ks (upd bk m (kptr r.b)) (upd ev m v) ch w') (hv : RowK w0 w' v (xs ++ ys))
 (hrows : ∀ s ∈ Ks,s ≠ m → ∀ zs,RowK w0 w (ev s) zs → RowK w0 w' (ev s) zs) : TieAt w0 Nb wv root ws Ks ch D (k :: (Q ++ [m])) (fun u => X u ∨ u = k.u ++ [c]) (upd bk m (kptr r.b)) (upd ev m v) w':=by
 have hup : ∀ t,t ∈ D ∨ t ∈ k :: Q → t ∈ D ∨ t ∈ k :: (Q ++ [m]):=fun t ht => by
  rcases ht with ht | ht
  ·exact .inl ht
  ·refine .inr ?_
   rw [← List.cons_append]
   exact List.mem_append_left _ ht
 have hdn : ∀ t,t ∈ D ∨ t ∈ k :: (Q ++ [m]) → t = m ∨ (t ∈ D ∨ t ∈ k :: Q):=fun t ht => by
  rw [← List.cons_append] at ht
  rcases ht with ht | ht
  ·exact .inr (.inl ht)
  ·rcases List.mem_append.1 ht with ht | ht
   ·exact .inr (.inr ht)
   ·exact .inl (List.mem_singleton.1 ht)
 refine ⟨hnet,h.ord.more hm hmu hn h.net.iu,h.knots,fun s hs ht => ?_,fun s hs => ?_⟩
 ·by_cases e : s = m
  ·rw [e,upd_same]
   exact ⟨r,hr,hup r hrt,rfl,hB⟩
  ·rw [upd_other _ _ e]
   rcases hdn s ht with e' | ht
   ·exact absurd e' e
   ·obtain ⟨t,q1,q2,q3,q4⟩:=h.back s hs ht
    exact ⟨t,q1,hup t q2,q3,q4⟩
 ·by_cases e : s = m
  ·rw [e,upd_same]
   refine ⟨xs ++ ys,hv,fun _ => ?_,fun hno => ?_⟩
   ·refine EndL.of_back ?_ hB hx hy
    rw [hmu];simp
   ·exact absurd (.inr (by rw [← List.cons_append];exact List.mem_append_right _ (List.mem_singleton.2 rfl))) hno
  ·rw [upd_other _ _ e]
   obtain ⟨zs,q1,q2,q3⟩:=h.rows s hs
   refine ⟨zs,hrows s hs e zs q1,fun ht => ?_,fun hno => q3 (fun ht => hno (hup s ht))⟩
   rcases hdn s ht with e' | ht
   ·exact absurd e' e
   ·exact q2 ht
theorem TieAt.gone (h : TieAt w0 Nb wv root ws Ks ch D (k :: Q) X bk ev w) (hX : ∀ t ∈ Ks,X t.u ↔ ∃ c,t.u = k.u ++ [c]) : TieAt w0 Nb wv root ws Ks ch (k :: D) Q (fun _ => False) bk ev w:=by
 have hiff : ∀ t,(t ∈ k :: D ∨ t ∈ Q) ↔ (t ∈ D ∨ t ∈ k :: Q):=fun t => by
  simp only [List.mem_cons]
  constructor
  ·rintro ((h | h) | h)
   ·exact .inr (.inl h)
   ·exact .inl h
   ·exact .inr (.inr h)
  ·rintro (h | h | h)
   ·exact .inl (.inr h)
   ·exact .inl (.inl h)
   ·exact .inr h
 refine ⟨h.net,h.ord.gone hX,h.knots,fun s hs ht => ?_,fun s hs => ?_⟩
 ·obtain ⟨t,q1,q2,q3,q4⟩:=h.back s hs ((hiff s).1 ht)
  exact ⟨t,q1,(hiff t).2 q2,q3,q4⟩
 ·obtain ⟨xs,q1,q2,q3⟩:=h.rows s hs
  exact ⟨xs,q1,fun ht => q2 ((hiff s).1 ht),fun hn => q3 (fun ht => hn ((hiff s).2 ht))⟩
structure Tied (w0 : World) (Nb : Nat) (wv : Value) (root : Kn) (ws : List (List UInt8)) (Ks : List Kn) (ch : Kn → List (Nat × Value)) (bk ev : Kn → Value) (w : World) : Prop where
 net : Net w0 Nb wv root Ks bk ev ch w
 tie : Tie ws Ks bk (fun _ => True)
 rows : ∀ s ∈ Ks,∃ xs,RowK w0 w (ev s) xs ∧ EndL ws s.u xs
theorem TieAt.done (h : TieAt w0 Nb wv root ws Ks ch D [] (fun _ => False) bk ev w) : Tied w0 Nb wv root ws Ks ch bk ev w:=by
 have hall:=h.ord.done h.par
 refine ⟨h.net,⟨h.knots,fun s hs _ => ?_⟩,fun s hs => ?_⟩
 ·obtain ⟨t,q1,_,q3,q4⟩:=h.back s hs (.inl (hall s hs))
  exact ⟨t,q1,trivial,q3,q4⟩
 ·obtain ⟨xs,q1,q2,_⟩:=h.rows s hs
  exact ⟨xs,q1,q2 (.inl (hall s hs))⟩
end
theorem info_ptr : (Tryz.prog.info? 217).map (fun i => (i.zero,i.size,i.bytes)) = some (some (.pointer none),1,8):=by kernel_rfl
def allPre (ws : List (List UInt8)) : List (List UInt8):=[] :: ws.flatMap fun x => (List.range (x.length + 1)).map x.take
theorem allPre_len (ws : List (List UInt8)) (h : ∀ x ∈ ws,x.length ≤ 60) : (allPre ws).length ≤ 1 + ws.length * 61:=by
 unfold allPre
 induction ws with
 | nil => simp
 | cons a r ih =>
   have h1:=h a (List.mem_cons_self ..)
   have h2:=ih (fun x hx => h x (List.mem_cons_of_mem _ hx))
   simp only [List.length_cons,List.flatMap_cons,List.length_append,List.length_map,List.length_range] at h2 ⊢
   omega
theorem knot_pre {ws : List (List UInt8)} {u : List UInt8} (h : Knot ws u) : u ∈ allPre ws:=by
 rcases h with rfl | ⟨x,hx,hp⟩
 ·exact List.mem_cons_self ..
 ·refine List.mem_cons_of_mem _ (List.mem_flatMap.2 ⟨x,hx,List.mem_map.2 ⟨u.length,?_,?_⟩⟩)
  ·have:=hp.length_le;simp;omega
  ·exact (List.prefix_iff_eq_take.1 hp).symm
theorem walk_few {ws : List (List UInt8)} {Ks D Q : List Kn} {X : List UInt8 → Prop} (h : Walk Ks D Q X) (hk : ∀ k ∈ Ks,Knot ws k.u) (iu : ∀ s ∈ Ks,∀ t ∈ Ks,s.u = t.u → s = t) (h1 : ws.length ≤ 20) (h2 : ∀ x ∈ ws,x.length ≤ 60) : Q.length ≤ 1221:=by
 have hq : Q.Nodup:=(List.nodup_append.1 h.nd).2.1
 have hm : (Q.map (·.u)).Nodup:=by
  rw [List.nodup_iff_pairwise_ne,List.pairwise_map]
  rw [List.nodup_iff_pairwise_ne] at hq
  refine hq.imp_of_mem fun {a b} ha hb hne e => hne (iu a (h.qk a ha) b (h.qk b hb) e)
 have:=List.Nodup.length_le_of_subset hm (l₂:=allPre ws) (fun u hu => by
  obtain ⟨k,hkq,rfl⟩:=List.mem_map.1 hu
  exact knot_pre (hk k (h.qk k hkq)))
 have h3:=allPre_len ws h2
 simp at this
 omega
section
variable {w0 w w' : World} {Nb : Nat} {wv : Value} {root k m r : Kn} {ws : List (List UInt8)} {Ks D Q : List Kn} {X : List UInt8 → Prop} {bk ev : Kn → Value} {ch : Kn → List (Nat × Value)} {mm it cnt : Nat} {l : List (Nat × Value)} {left : Nat → Prop}
def RKeep (w0 : World) (Ks : List Kn) (ev : Kn → Value) (w w' : World) : Prop:=∀ s ∈ Ks,∀ zs,RowK w0 w (ev s) zs → RowK w0 w' (ev s) zs
theorem RKeep.trans {a b c : World} (h : RKeep w0 Ks ev a b) (h' : RKeep w0 Ks ev b c) : RKeep w0 Ks ev a c:=fun s hs zs q => h' s hs zs (h s hs zs q)
theorem RKeep.below (hb : Below w.heap.size w w') : RKeep w0 Ks ev w w':=fun _ _ _ q => q.below hb
theorem RKeep.cell {t : TypeId} {cs : Array Value} {g : Nat} (hb : Blk w g t cs) (ht : t ≠ 3) (o : Nat) (v : Value) : RKeep w0 Ks ev w (w.setCell ⟨g,o,none⟩ v):=fun _ _ _ q => q.kept (grown_setK w ⟨g,o,none⟩ v) (q.not_blk hb ht)
theorem iter_blk {t : TypeId} {cs : Array Value} {g : Nat} (h : Rg w mm it byteW l left cnt) (hb : Blk w g t cs) : g ≠ it:=by
 rintro rfl
 obtain ⟨_,_,_,hi⟩:=h.iter
 unfold Blk at hb
 rw [hb] at hi
 cases hi
theorem iter_mp {g : Nat} {l' : List (Nat × Value)} (h : Rg w mm it byteW l left cnt) (hm : Mp w g byteW l') : g ≠ it:=by
 rintro rfl
 obtain ⟨_,_,_,hi⟩:=h.iter
 obtain ⟨_,_,hb,_⟩:=hm
 rw [hb] at hi
 cases hi
theorem iter_row {v : Value} {xs : List Nat} (h : Rg w mm it byteW l left cnt) (hr : RowK w0 w v xs) : v.ownBlock = none ∨ v.ownBlock ≠ some it:=hr.apart fun cur e => by
 obtain ⟨_,_,_,hi⟩:=h.iter
 rw [e] at hi
 cases hi
theorem iter_qu {base g o cap : Nat} {e : TypeId} {xs : List Value} (h : Rg w mm it byteW l left cnt) (hq : Qu w base e g o cap xs) : g ≠ it:=by
 rintro rfl
 obtain ⟨_,_,_,hi⟩:=h.iter
 obtain ⟨_,hc,_⟩:=hq.hcur
 rw [hc] at hi
 cases hi
theorem mp_qu {base g o cap n : Nat} {e : TypeId} {xs : List Value} {l' : List (Nat × Value)} (h : Mp w n byteW l') (hq : Qu w base e g o cap xs) : n ≠ g:=by
 rintro rfl
 obtain ⟨_,hc,_⟩:=hq.hcur
 obtain ⟨_,_,hb,_⟩:=h
 rw [hc] at hb
 cases hb
theorem blk_qu {base g o cap n : Nat} {e t : TypeId} {cs : Array Value} {xs : List Value} (h : Blk w n t cs) (ht : t ≠ e) (hq : Qu w base e g o cap xs) : n ≠ g:=by
 rintro rfl
 obtain ⟨_,hc,_⟩:=hq.hcur
 unfold Blk at h
 rw [hc] at h
 cases h
 exact ht rfl
theorem TieAt.next (h : TieAt w0 Nb wv root ws Ks ch D Q X bk ev w) (hr : Rg w mm it byteW l left cnt) (hi : w0.heap.size ≤ it) (hg : w.grownBy w' (some it)) : TieAt w0 Nb wv root ws Ks ch D Q X bk ev w' :=
 h.moved hg (fun g e => by cases e;exact hi) (fun e => iter_blk hr h.net.net (Option.some.inj e)) (fun k hk => ⟨fun e => iter_blk hr (h.net.blk k hk) (Option.some.inj e),fun e => iter_mp hr (h.net.mp k hk) (Option.some.inj e)⟩) (fun s hs => by
  obtain ⟨xs,q,_⟩:=h.rows s hs
  exact iter_row hr q)
theorem TieAt.queue (h : TieAt w0 Nb wv root ws Ks ch D Q X bk ev w) {g o cap : Nat} {xs : List Value} (hq : Qu w w0.heap.size 217 g o cap xs) (hg : w.grownBy w' (some g)) : TieAt w0 Nb wv root ws Ks ch D Q X bk ev w' :=
 h.moved hg (fun g' e => by cases e;exact hq.hbase) (fun e => blk_qu h.net.net (by decide) hq (Option.some.inj e)) (fun k hk => ⟨fun e => blk_qu (h.net.blk k hk) (by decide) hq (Option.some.inj e),fun e => mp_qu (h.net.mp k hk) hq (Option.some.inj e)⟩) (fun s hs => by
  obtain ⟨xs',q,_⟩:=h.rows s hs
  refine q.apart fun cur e => ?_
  obtain ⟨_,hc,_⟩:=hq.hcur
  rw [hc] at e
  injection e with e
  injection e with _ e _
  exact absurd e (by decide))
end
theorem Rg.cell {t : TypeId} {cs : Array Value} {g : Nat} {w : World} {mm it cnt : Nat} {l : List (Nat × Value)} {left : Nat → Prop} (h : Rg w mm it byteW l left cnt) (hb : Blk w g t cs) (o : Nat) (v : Value) : Rg (w.setCell ⟨g,o,none⟩ v) mm it byteW l left cnt:=by
 refine h.kept (grown_setK w ⟨g,o,none⟩ v) (fun e => ?_) (fun e => iter_blk h hb (Option.some.inj e).symm)
 obtain ⟨es,clock,since,seen,c0,hm,_⟩:=h
 unfold Blk at hb
 rw [Option.some.inj e] at hm
 rw [hm] at hb
 cases hb
theorem qu_cell {t e : TypeId} {cs : Array Value} {n base g o cap : Nat} {w : World} {xs : List Value} (h : Qu w base e g o cap xs) (hb : Blk w n t cs) (ht : t ≠ e) (p : Nat) (v : Value) : Qu (w.setCell ⟨n,p,none⟩ v) base e g o cap xs :=
 h.kept (grown_setK w ⟨n,p,none⟩ v) (fun e' => blk_qu hb ht h (Option.some.inj e').symm)
theorem qu_below {e : TypeId} {base g o cap : Nat} {w w' : World} {xs : List Value} (h : Qu w base e g o cap xs) (hb : Below w.heap.size w w') : Qu w' base e g o cap xs :=
 h.kept (row:=none) ⟨hb.os,hb.tape,hb.output,hb.size,fun i hi _ => hb.block i hi⟩ (by simp)
theorem rg_qu {w w' : World} {mm it cnt base g o cap : Nat} {e : TypeId} {xs : List Value} {l : List (Nat × Value)} {left : Nat → Prop} (h : Rg w mm it byteW l left cnt) (hq : Qu w base e g o cap xs) (hg : w.grownBy w' (some g)) : Rg w' mm it byteW l left cnt:=by
 refine h.kept hg (fun e => ?_) (fun e => iter_qu h hq (Option.some.inj e).symm)
 obtain ⟨es,clock,since,seen,c0,hm,_⟩:=h
 obtain ⟨_,hc,_⟩:=hq.hcur
 rw [Option.some.inj e] at hm
 rw [hm] at hc
 cases hc
theorem RowK.base {a b w : World} {v : Value} {xs : List Nat} (h : RowK b w v xs) (hb : a.heap.size ≤ b.heap.size) : RowK a w v xs:=by
 refine ⟨h.1,h.2.1,?_⟩
 rcases h.2.2 with h | ⟨g,cap,cur,h1,h2,h3⟩
 ·exact .inl h
 ·exact .inr ⟨g,cap,cur,h1,Nat.le_trans hb h2,h3⟩
def XofK (k : Kn) (left : Nat → Prop) (u : List UInt8) : Prop:=∃ c,c < 256 ∧ ¬ left c ∧ u = k.u ++ [UInt8.ofNat c]
theorem XofK.zero (k : Kn) : XofK k (fun _ => True) = fun _ => False:=by
 funext u
 simp [XofK]
theorem XofK.step {k : Kn} {left : Nat → Prop} {c : Nat} (hc : c < 256) : XofK k (fun a => left a ∧ a ≠ c) = fun u => XofK k left u ∨ u = k.u ++ [UInt8.ofNat c]:=by
 funext u
 apply propext
 constructor
 ·rintro ⟨a,h1,h2,h3⟩
  by_cases e : a = c
  ·rw [e] at h3;exact .inr h3
  ·exact .inl ⟨a,h1,fun hl => h2 ⟨hl,e⟩,h3⟩
 ·rintro (⟨a,h1,h2,h3⟩ | h3)
  ·exact ⟨a,h1,fun hl => h2 hl.1,h3⟩
  ·exact ⟨c,hc,fun hl => hl.2 rfl,h3⟩
def ptrVals (Q : List Kn) : List Value:=Q.map fun k => kptr k.b
theorem ptr_len (Q : List Kn) : (ptrVals Q).length = Q.length:=by simp [ptrVals]
theorem tie_c (w0 w : World) (Nb : Nat) (wv : Value) (root : Kn) (ws : List (List UInt8)) (Ks : List Kn) (ev : Kn → Value) (ch : Kn → List (Nat × Value)) (h : NewAt w0 Nb wv root ws ws.length 0 Ks ev ch w) (h1 : ws.length ≤ 20) (h2 : ∀ x ∈ ws,x ≠ [] ∧ x.length ≤ 60) :
 Calls Tryz.prog 125 #[.pointer (some ⟨Nb,0,none⟩)] w (fun e w' => e = .returned (.tuple #[]) ∧ ∃ bk ev',Tied w0 Nb wv root ws Ks ch bk ev' w'):=by
 obtain ⟨i0,hi0,hz0,hz1,hz2⟩:=info_parts info_ptr
 have hd:=h.below (Below.refl _ _).drew
 have n0 : w.drew.cell? ⟨Nb,0,none⟩ = some (.pointer (some ⟨root.b,0,none⟩)):=hd.net.net.cell 0
 have r1 : w.drew.cell? ⟨root.b,1,none⟩ = some (.pointer none):=(hd.net.blk root hd.net.rt).cell 1
 have y1:=(hd.net.blk root hd.net.rt).frozen 1
 have HT : Hid (TieAt w0 Nb wv root ws Ks ch [] [root] (fun _ => False) (upd (fun _ => .pointer none) root (kptr root.b)) ev ((w.setCell ⟨root.b,1,none⟩ (kptr root.b)).drew)):=hid (TieAt.start hd (fun x hx => (h2 x hx).1))
 have HW2:=hid h2
 clear h h2 hd
 go_enter Tryz.func125,Tryz.ntmps125
 go_wp2_with fail
 go_region
 all_goals (
  unfold kptr at HT
  have n1 : ((w.setCell ⟨root.b,1,none⟩ (.pointer (some ⟨root.b,0,none⟩))).drew).cell? ⟨Nb,0,none⟩ = some (.pointer (some ⟨root.b,0,none⟩)):=HT.out.net.net.cell 0
  generalize (w.setCell ⟨root.b,1,none⟩ (.pointer (some ⟨root.b,0,none⟩))).drew = W1 at *
  clear n0 r1 y1
  have HQ0:=hid (Qu.one W1 w0.heap.size 217 W1.heap.size rfl HT.out.net.keep.size (.pointer (some ⟨root.b,0,none⟩)))
  have HT0:=hid (HT.out.below ((Below.refl _ _).alloc (Nat.le_refl _) (.cells #[.pointer (some ⟨root.b,0,none⟩)] 217)))
  go_wp2_with fail
  go_loopg [2] ((Ks.filter fun t => decide (t ∉ ([] : List Kn))).length + 1) (fun gk v2 wr => ∃ (D Q : List Kn) (bk ev : Kn → Value) (g o cap n : Nat),v2 = .slice (some ⟨g,o,none⟩) n cap ∧ Q.length = n ∧ n ≤ 1221 ∧ Hid (TieAt w0 Nb wv root ws Ks ch D Q (fun _ => False) bk ev wr) ∧ Hid (Qu wr w0.heap.size 217 g o cap (ptrVals Q)) ∧ Hid ((Ks.filter fun t => decide (t ∉ D)).length < gk))
  case atStart => exact ⟨[],[root],_,_,W1.heap.size,0,1,1,rfl,rfl,by omega,HT0,HQ0,hid (Nat.lt_succ_self _)⟩
  case round =>
   clear HT HT0 HQ0 n1
   obtain ⟨D,Q,bk,ev,g,o,cap,n,rfl,hn,hfew,HT,HQ,HG⟩:=hrel
   cases Q with
   | nil =>
     obtain rfl : n = 0:=by simpa using hn.symm
     clear hn
     go_wp2_with fail
     go_end0
     exact ⟨rfl,bk,ev,HT.out.done⟩
   | cons k Q =>
     obtain rfl : n = Q.length + 1:=by simpa using hn.symm
     clear hn
     have q0 : wr.cell? ⟨g,o,none⟩ = some (.pointer (some ⟨k.b,0,none⟩)):=by
      have:=HQ.out.cell 0 (kptr k.b) (by simp [ptrVals])
      rw [Nat.add_zero] at this
      exact this
     have hkm : k ∈ Ks:=HT.out.ord.qk k (List.mem_cons_self ..)
     have k0 : wr.cell? ⟨k.b,0,none⟩ = some (.map (some k.m)):=(HT.out.net.blk k hkm).cell 0
     have HMP:=hid (HT.out.net.mp k hkm)
     have HKM:=hid hkm
     have hcap1:=HQ.out.hle
     rw [ptr_len] at hcap1
     have hcap2:=HQ.out.hcap
     have hgpos : 0 < (Q.length : Int) + 1:=by omega
     clear hkm
     simp only [List.length_cons] at hcap1
     go_wp2_with (at_range;refine wpList_range_mp _ rfl _ 218 rfl 5 217 Tryz.underlying218 byteW (ch k) k.m rfl HMP.out ?_;intro w1 hrg hb1 hs1)
     go_frame
     have HT1:=hid (HT.out.below hb1)
     have HQ1:=hid (HQ.out.kept (row:=none) ⟨hb1.os,hb1.tape,hb1.output,hb1.size,fun i hi _ => hb1.block i hi⟩ (by simp))
     have HRG:=hid hrg
     have hit : w0.heap.size ≤ wr.heap.size:=HT.out.net.keep.size
     generalize wr.heap.size = it at hrg HRG hit ⊢
     clear HT HQ q0 k0 hrg hb1 hs1
     go_loopw [2] (fun v2 wx => ∃ (Q : List Kn) (bk ev : Kn → Value) (g o cap n cnt : Nat) (left : Nat → Prop),v2 = .slice (some ⟨g,o,none⟩) n cap ∧ Q.length + 1 = n ∧ n ≤ 1221 ∧ Hid (TieAt w0 Nb wv root ws Ks ch D (k :: Q) (XofK k left) bk ev wx) ∧ Hid (Qu wx w0.heap.size 217 g o cap (ptrVals (k :: Q))) ∧ Hid (Rg wx k.m it byteW (ch k) left cnt)) (fun _ wx => wx.rangeLeft k.m it)
     case atStart => exact ⟨Q,bk,ev,g,o,cap,Q.length + 1,_,_,rfl,rfl,hfew,by rw [XofK.zero];exact HT1,HQ1,HRG⟩
     case round =>
      clear HT1 HQ1 HRG hcap1 hcap2 hgpos hfew
      obtain ⟨Q,bk,ev,g,o,cap,n,cnt,left,rfl,hn,hfew,HT,HQ,HR⟩:=hrel
      subst hn
      have hrg:=HR.out
      go_wp2_with (at_next;refine wpList_next_mp _ rfl _ rfl byteW (ch k) k.m it _ _ rfl hrg ?_ ?_)
      ·intro hc0 hl0
       have hcap1:=HQ.out.hle
       rw [ptr_len,List.length_cons] at hcap1
       have hcap2:=HQ.out.hcap
       unfold maxLen at hcap2
       have HX : Hid (∀ t ∈ Ks,XofK k left t.u ↔ ∃ c,t.u = k.u ++ [c]):=hid fun t ht => by
        constructor
        ·rintro ⟨c,_,_,e⟩;exact ⟨_,e⟩
        ·rintro ⟨c,e⟩
         have hc : c.toNat < 256:=c.toNat_lt
         have hg:=HT.out.net.all k HKM.out t ht c.toNat hc (by rw [e];simp)
         exact ⟨c.toNat,hc,hl0 c.toNat _ (mem_get hg),by rw [e];simp⟩
       have hkD : k ∉ D:=fun hd => by
        have:=HT.out.ord.nd
        rw [List.nodup_append] at this
        exact this.2.2 k hd k (List.mem_cons_self ..) rfl
       have HL:=hid (walk_less HKM.out hkD)
       have HT2:=hid (HT.out.gone HX.out)
       have HQ2:=hid (HQ.out.tail (by simp [ptrVals]))
       have HGK : Hid ((Ks.filter fun t => decide (t ∉ k :: D)).length < gk - 1):=hid (by have:=HL.out;have:=HG.out;omega)
       have hg0 : 0 < gk:=by have:=HG.out;omega
       have hq63 : Q.length + 1 ≤ cap:=hcap1
       have htl : (ptrVals (k :: Q)).tail = ptrVals Q:=rfl
       rw [htl] at HQ2
       clear hc0 hl0 hrg hkD HT HQ HR HX htl HL
       by_cases hc1 : cap = 1
       ·rw [if_pos hc1] at HQ2
        subst hc1
        have hQ0 : Q = []:=List.eq_nil_of_length_eq_zero (by omega)
        subst hQ0
        go_wp2_with fail
        go_roundg (gk - 1)
        case rel => exact ⟨k :: D,[],bk,ev,g,o,0,0,rfl,rfl,by omega,HT2,HQ2,HGK⟩
        all_goals omega
       ·rw [if_neg hc1] at HQ2
        have hc2 : (cap : Int) ≠ 1:=by omega
        go_wp2_with fail
        go_roundg (gk - 1)
        case rel => exact ⟨k :: D,Q,bk,ev,g,o + 1,cap - 1,Q.length,rfl,rfl,by omega,HT2,HQ2,HGK⟩
        all_goals omega
      ·intro c pv w1 cnt1 hp hlp hrg1 hlt1 hg1 hs1 hen
       obtain ⟨m,hm,rfl,hc,hmu⟩:=HT.out.net.kids k HKM.out c pv (get_mem HMP.out.nodup hp)
       have hit : w0.heap.size ≤ it:=by assumption
       have HT1:=hid (HT.out.next hrg hit hg1)
       have HQ1:=hid (HQ.out.kept hg1 (fun e => iter_qu hrg HQ.out (Option.some.inj e)))
       have HFR:=hid (HT1.out.fresh hm hmu (fun hx => by
        obtain ⟨c',h1',h2',h3'⟩:=hx
        rw [hmu] at h3'
        exact h2' (by rw [← byte_inj hc h1' (snoc_inj h3').2];exact hlp)))
       have HRG1:=hid hrg1
       have hlt:=hlt1
       have HEN : Hid ((Instr.entry (.pointer (some ⟨it,0,none⟩))).run Tryz.prog w1 = .ok (.tuple #[.int .u8 (c : Int),.pointer (some ⟨m.b,0,none⟩)]) w1):=hid hen
       have HCH : Hid (m ∈ Ks ∧ m.u = k.u ++ [UInt8.ofNat c] ∧ c < 256):=hid ⟨hm,hmu,hc⟩
       have hLE : wr.rangeLeft k.m it = cnt:=hrg.left_eq
       have HLE:=hid hLE
       have hsz1 : w0.heap.size ≤ w1.heap.size:=HT1.out.net.keep.size
       have n0 : w1.cell? ⟨Nb,0,none⟩ = some (.pointer (some ⟨root.b,0,none⟩)):=HT1.out.net.net.cell 0
       have hmb:=HT1.out.net.blk m hm
       have m1 : w1.cell? ⟨m.b,1,none⟩ = some (bk m):=hmb.cell 1
       have y1 : w1.frozen? ⟨m.b,1,none⟩ = false:=hmb.frozen 1
       obtain ⟨q,hq⟩ : ∃ q,q = bk m:=⟨_,rfl⟩
       rw [← hq] at m1
       have hen':=HEN.out
       clear hq hen hrg hrg1 hlt1 hg1 hs1 hp hlp HR HT HQ hLE hm hmu hc hmb
       by_cases hrt : k = root
       ·have H2N:=hid (HT1.out.net.setBack HCH.out.1 (kptr root.b))
        have hpe : (binOp .neq 217 (.pointer (some ⟨k.b,0,none⟩)) (.pointer (some ⟨root.b,0,none⟩))).run Tryz.prog (w1.setCell ⟨m.b,1,none⟩ (.pointer (some ⟨root.b,0,none⟩))) = .ok (.bool false) (w1.setCell ⟨m.b,1,none⟩ (.pointer (some ⟨root.b,0,none⟩))):=by rw [hrt];exact knot_same ⟨root.b,0,none⟩ _
        have HRR : Hid (root ∈ Ks ∧ (root ∈ D ∨ root ∈ k :: Q) ∧ Bk ws m.u root.u):=hid ⟨HT1.out.net.rt,.inr (by rw [hrt];exact List.mem_cons_self ..),by rw [HCH.out.2.1,hrt,HT1.out.net.ru];exact Bk.one ws _⟩
        have H3N : Hid (Net w0 Nb wv root Ks (upd bk m (kptr root.b)) ev ch (w1.setCell ⟨m.b,1,none⟩ (.pointer (some ⟨root.b,0,none⟩)))):=H2N
        have hmb:=HT1.out.net.blk m HCH.out.1
        have HRK : Hid (RKeep w0 Ks ev w1 (w1.setCell ⟨m.b,1,none⟩ (.pointer (some ⟨root.b,0,none⟩)))):=hid (RKeep.cell hmb (by decide) 1 _)
        have HQ3:=hid (qu_cell HQ1.out hmb (by decide) 1 (.pointer (some ⟨root.b,0,none⟩)))
        have HR3:=hid (HRG1.out.cell hmb 1 (.pointer (some ⟨root.b,0,none⟩)))
        clear hrt hmb H2N
        go_wp2_with fail
        clear hpe hen' n0 m1 y1
        generalize w1.setCell ⟨m.b,1,none⟩ (.pointer (some ⟨root.b,0,none⟩)) = W3 at *
        unfold kptr at *
        have hnet3:=H3N.out
        have hmb:=hnet3.blk m HCH.out.1
        rw [upd_same] at hmb
        have hrb:=hnet3.blk root HRR.out.1
        have hrm : root ≠ m:=fun e => HFR.out (by rw [← e];exact HRR.out.2.1)
        rw [upd_other _ _ hrm] at hrb
        obtain ⟨xs,hx1,_,hx2⟩:=HT1.out.rows m HCH.out.1
        obtain ⟨ys,hz1,hz2,_⟩:=HT1.out.rows root HRR.out.1
        have hx3:=HRK.out m HCH.out.1 xs hx1
        have hz3:=HRK.out root HRR.out.1 ys hz1
        have HX2:=hid (hx2 HFR.out)
        have HZ2:=hid (hz2 HRR.out.2.1)
        have hxl:=OwnL.few HX2.out (Nat.le_refl _)
        have hzl:=EndL.few HZ2.out
        obtain ⟨vm,hvm⟩ : ∃ vm,vm = ev m:=⟨_,rfl⟩
        obtain ⟨vr,hvr⟩ : ∃ vr,vr = ev root:=⟨_,rfl⟩
        rw [← hvm] at hmb hx3
        rw [← hvr] at hrb hz3
        obtain ⟨Am,cm,hfm⟩:=hx3.src.form
        obtain ⟨Ar,cr,hfr⟩:=hz3.src.form
        rw [hfm] at hmb hx3
        rw [hfr] at hrb hz3
        clear hvm hvr hfm hfr
        have HMB3:=hid hmb
        have HMB:=hid (hmb.below (Below.refl _ _).drew hmb.lt)
        have HRB:=hid (hrb.below (Below.refl _ _).drew hrb.lt)
        have HX3:=hid hx3
        have HZ3:=hid hz3
        have m1 : W3.drew.cell? ⟨m.b,1,none⟩ = some (.pointer (some ⟨root.b,0,none⟩)):=HMB.out.cell 1
        have m2 : W3.drew.cell? ⟨m.b,2,none⟩ = some (.slice Am xs.length cm):=HMB.out.cell 2
        have r2 : W3.drew.cell? ⟨root.b,2,none⟩ = some (.slice Ar ys.length cr):=HRB.out.cell 2
        obtain ⟨N,hN⟩ : ∃ N,N = (xs ++ ys).length:=⟨_,rfl⟩
        have HCC : Hid (Calls Tryz.prog 155 #[.slice (some ⟨W3.heap.size,0,none⟩) 2 2] ((W3.alloc (.cells #[(.slice Am xs.length cm),(.slice Ar ys.length cr)] 191)).drew) (fun e w' => ∃ A cap,e = .returned (.slice A N cap) ∧ RowK w0 w' (.slice A N cap) (xs ++ ys) ∧ Below W3.heap.size W3 w')):=hid (by
         have hbl : Below W3.heap.size W3 ((W3.alloc (.cells #[(.slice Am xs.length cm),(.slice Ar ys.length cr)] 191)).drew):=((Below.refl _ _).alloc (Nat.le_refl _) _).drew
         have hnew:=Blk.new W3 191 #[(.slice Am xs.length cm),(.slice Ar ys.length cr)]
         refine (Concat2I xs ys (.slice Am xs.length cm) (.slice Ar ys.length cr) W3.heap.size _ (HX3.out.src.below hbl) (HZ3.out.src.below hbl) (hnew.cell 0) (hnew.cell 1) hnew.lt (by omega)).mono ?_
         rintro e w' ⟨A,cap,rfl,hrow,hb⟩
         exact ⟨A,cap,by rw [hN],by rw [hN];exact hrow.base (Nat.le_trans hnet3.keep.size hbl.size),hbl.trans (hb.mono hbl.size)⟩)
        clear hnet3 hmb hrb hx1 hx2 hz1 hz2 hx3 hz3 hN
        have y2:=HMB.out.frozen 2
        have hzm:=HMB.out.lt
        clear hxl hzl
        go_region_with (go_at_call 155;refine HCC.out.mono ?_;rintro e w4 ⟨A4,cap4,rfl,hrow4,hb4⟩;have hm4:=HMB3.out.kept hb4;have m4 : w4.cell? ⟨m.b,2,none⟩ = some (.slice Am xs.length cm):=hm4.cell 2;have y4 : w4.frozen? ⟨m.b,2,none⟩ = false:=hm4.frozen 2)
        all_goals (
         have hmI:=HCH.out.1
         have HN5 : Hid (Net w0 Nb wv root Ks (upd bk m (.pointer (some ⟨root.b,0,none⟩))) (upd ev m (.slice A4 N cap4)) ch (w4.setCell ⟨m.b,2,none⟩ (.slice A4 N cap4))):=hid ((H3N.out.below hb4).setEnds hmI _)
         have HV5:=hid (hrow4.kept (grown_setK w4 ⟨m.b,2,none⟩ (.slice A4 N cap4)) (hrow4.not_blk hm4 (by decide)))
         have HK5 : Hid (∀ s ∈ Ks,s ≠ m → ∀ zs,RowK w0 w1 (ev s) zs → RowK w0 (w4.setCell ⟨m.b,2,none⟩ (.slice A4 N cap4)) (ev s) zs):=hid fun s hs _ zs q => by
          have q2:=(HRK.out s hs zs q).below hb4
          exact q2.kept (grown_setK w4 ⟨m.b,2,none⟩ (.slice A4 N cap4)) (q2.not_blk hm4 (by decide))
         have HT5:=hid (HT1.out.more hmI HCH.out.2.1 HFR.out HRR.out.1 HRR.out.2.1 HRR.out.2.2 HX2.out HZ2.out HN5.out HV5.out HK5.out)
         have HQ5:=hid (qu_cell (qu_below HQ3.out hb4) hm4 (by decide) 2 (.slice A4 N cap4))
         have HR5:=hid ((HR3.out.below hb4).cell hm4 2 (.slice A4 N cap4))
         have hfew2:=walk_few HT5.out.ord (fun x hx => (HT5.out.knots _).2 ⟨x,hx,rfl⟩) HT5.out.net.iu h1 (fun x hx => (HW2.out x hx).2)
         simp only [List.length_cons,List.length_append,List.length_nil] at hfew2
         generalize w4.setCell ⟨m.b,2,none⟩ (.slice A4 N cap4) = w5 at *
         clear m1 m2 r2 y2 m4 y4 hm4 hb4 hrow4 HN5 HV5 HK5 HX2 HZ2 HX3 HZ3 HMB3 HMB HRB HCC H3N HRK HQ3 HR3
         have hal : Below w5.heap.size w5 (w5.alloc (.cells #[.pointer (some ⟨m.b,0,none⟩)] 217)):=(Below.refl _ _).alloc (Nat.le_refl _) _
         have HQ6:=hid (qu_below HQ5.out hal)
         have HT6:=hid (HT5.out.below hal)
         have HR6:=hid (HR5.out.below hal)
         have HLEN : Hid ((ptrVals (k :: Q)).length = Q.length + 1):=hid (by simp [ptrVals])
         have HSZ:=hid HT6.out.net.keep.size
         have HC6 : Hid ((w5.alloc (.cells #[.pointer (some ⟨m.b,0,none⟩)] 217)).cell? ⟨w5.heap.size,0,none⟩ = some (.pointer (some ⟨m.b,0,none⟩))):=hid ((Blk.new w5 217 #[.pointer (some ⟨m.b,0,none⟩)]).cell 0)
         go_wp2_with (at_builtin;(refine wpList_app_q rfl (.tmp 78) (.tmp 80) _ rfl i0 _ 8 Tryz.underlying254 hi0 hz0 hz1 hz2 rfl (Q.length + 1) HLEN.out rfl HQ6.out HSZ.out (.pointer (some ⟨m.b,0,none⟩)) rfl w5.heap.size 1 rfl HC6.out (by unfold maxLen;omega) (by omega) ?_);intro g' o' c' w' hQ' hg' hat')
         have HT7:=hid (HT6.out.queue HQ6.out hg')
         have HR7:=hid (rg_qu HR6.out HQ6.out hg')
         have HQ7:=hid hQ'
         clear hQ' hat' hal
         have HX7 : Hid (TieAt w0 Nb wv root ws Ks ch D (k :: (Q ++ [m])) (XofK k fun a => left a ∧ ¬ a = c) (upd bk m (.pointer (some ⟨root.b,0,none⟩))) (upd ev m (.slice A4 N cap4)) w'):=hid (by
          have:=HT7.out
          rw [← XofK.step HCH.out.2.2] at this
          exact this)
         have HQ8 : Hid (Qu w' w0.heap.size 217 g' o' c' (ptrVals (k :: (Q ++ [m])))):=hid (by
          have:=HQ7.out
          unfold ptrVals kptr at this ⊢
          simpa using this)
         have hn8 : (Q ++ [m]).length + 1 = Q.length + 1 + 1:=by simp
         go_roundw
         case rel => exact ⟨Q ++ [m],_,_,g',o',c',Q.length + 1 + 1,cnt1,_,rfl,hn8,by omega,HX7,HQ8,HR7⟩
         case measure => rw [HR7.out.left_eq,HLE.out];exact hlt)
       ·have hkm:=HKM.out
        have hktd : k ∈ D ∨ k ∈ k :: Q:=.inr (List.mem_cons_self ..)
        have hkne : k ≠ m:=fun e => HFR.out (by rw [← e];exact hktd)
        have H2N:=hid (HT1.out.net.setBack HCH.out.1 (kptr root.b))
        have hbne : k.b ≠ root.b:=fun e => hrt (HT1.out.net.ib k hkm root HT1.out.net.rt e)
        have hpe : (binOp .neq 217 (.pointer (some ⟨k.b,0,none⟩)) (.pointer (some ⟨root.b,0,none⟩))).run Tryz.prog (w1.setCell ⟨m.b,1,none⟩ (.pointer (some ⟨root.b,0,none⟩))) = .ok (.bool true) (w1.setCell ⟨m.b,1,none⟩ (.pointer (some ⟨root.b,0,none⟩))) :=
         knot_other _ (fun e => hbne (congrArg Addr.block e)) (H2N.out.blk k hkm) (H2N.out.blk root H2N.out.rt)
        obtain ⟨q,hq,hqt,hbk,hB⟩:=HT1.out.back k hkm hktd
        have hun : k.u ≠ []:=fun e => hrt (HT1.out.net.iu k hkm root HT1.out.net.rt (e.trans HT1.out.net.ru.symm))
        have hqlt:=hB.lt hun
        have HST : Hid (Calls Tryz.prog 126 #[.pointer (some ⟨Nb,0,none⟩),.pointer (some ⟨q.b,0,none⟩),.int .u8 (c : Int)] (w1.setCell ⟨m.b,1,none⟩ (.pointer (some ⟨root.b,0,none⟩))) (fun e w' => ∃ r : Kn,e = .returned (.pointer (some ⟨r.b,0,none⟩)) ∧ (r ∈ Ks ∧ (r ∈ D ∨ r ∈ k :: Q) ∧ Bk ws m.u r.u) ∧ w1.setCell ⟨m.b,1,none⟩ (.pointer (some ⟨root.b,0,none⟩)) = w')):=hid (by
         refine (step_c H2N.out (Td:=fun s => s ∈ D ∨ s ∈ k :: Q) ⟨HT1.out.knots,fun s hs ht => ?_⟩ hq hqt k.u.tail hB c HCH.out.2.2).mono ?_
         ·rw [upd_other _ _ (fun e => HFR.out (by rw [← e];exact ht))]
          exact HT1.out.back s hs ht
         ·rintro e w' ⟨r,rfl,hr,hls,hrl,rfl⟩
          refine ⟨r,rfl,⟨hr,HT1.out.ord.all HT1.out.par r hr (by omega),?_⟩,rfl⟩
          rw [HCH.out.2.1]
          exact Bk.snoc hun hls)
        have k1 : (w1.setCell ⟨m.b,1,none⟩ (.pointer (some ⟨root.b,0,none⟩))).cell? ⟨k.b,1,none⟩ = some (.pointer (some ⟨q.b,0,none⟩)):=by
         have:=(H2N.out.blk k hkm).cell 1
         rw [upd_other _ _ hkne,hbk] at this
         exact this
        have hmb2:=H2N.out.blk m HCH.out.1
        have y2 : (w1.setCell ⟨m.b,1,none⟩ (.pointer (some ⟨root.b,0,none⟩))).frozen? ⟨m.b,1,none⟩ = false:=hmb2.frozen 1
        have m3 : (w1.setCell ⟨m.b,1,none⟩ (.pointer (some ⟨root.b,0,none⟩))).cell? ⟨m.b,1,none⟩ = some (.pointer (some ⟨root.b,0,none⟩)):=by
         have:=hmb2.cell 1
         rw [upd_same] at this
         exact this
        have HK2:=hid (⟨RKeep.cell (w0:=w0) (Ks:=Ks) (ev:=ev) (HT1.out.net.blk m HCH.out.1) (by decide) 1 (.pointer (some ⟨root.b,0,none⟩)),qu_cell HQ1.out (HT1.out.net.blk m HCH.out.1) (by decide) 1 (.pointer (some ⟨root.b,0,none⟩)),HRG1.out.cell (HT1.out.net.blk m HCH.out.1) 1 (.pointer (some ⟨root.b,0,none⟩))⟩ : _ ∧ _ ∧ _)
        clear hkm hktd hkne hbne hq hqt hbk hB hun hqlt hmb2 hrt
        go_wp2_with (go_at_call 126;refine HST.out.mono ?_;rintro e w' ⟨r,rfl,hrr,rfl⟩;have HRR:=hid hrr;clear hrr)
        have hmb2:=H2N.out.blk m HCH.out.1
        have H3N : Hid (Net w0 Nb wv root Ks (upd bk m (kptr r.b)) ev ch ((w1.setCell ⟨m.b,1,none⟩ (.pointer (some ⟨root.b,0,none⟩))).setCell ⟨m.b,1,none⟩ (.pointer (some ⟨r.b,0,none⟩)))):=hid (by
         have:=H2N.out.setBack HCH.out.1 (kptr r.b)
         rw [upd_upd] at this
         exact this)
        have HRK : Hid (RKeep w0 Ks ev w1 ((w1.setCell ⟨m.b,1,none⟩ (.pointer (some ⟨root.b,0,none⟩))).setCell ⟨m.b,1,none⟩ (.pointer (some ⟨r.b,0,none⟩)))):=hid (HK2.out.1.trans (RKeep.cell (w0:=w0) (Ks:=Ks) (ev:=ev) hmb2 (by decide) 1 (.pointer (some ⟨r.b,0,none⟩))))
        have HQ3:=hid (qu_cell HK2.out.2.1 hmb2 (by decide) 1 (.pointer (some ⟨r.b,0,none⟩)))
        have HR3:=hid (HK2.out.2.2.cell hmb2 1 (.pointer (some ⟨r.b,0,none⟩)))
        unfold kptr at H2N
        clear hpe hen' n0 m1 y1 HK2 k1 y2 m3 hmb2 HST H2N
        generalize (w1.setCell ⟨m.b,1,none⟩ (.pointer (some ⟨root.b,0,none⟩))).setCell ⟨m.b,1,none⟩ (.pointer (some ⟨r.b,0,none⟩)) = W3 at *
        unfold kptr at *
        have hnet3:=H3N.out
        have hmb:=hnet3.blk m HCH.out.1
        rw [upd_same] at hmb
        have hrb:=hnet3.blk r HRR.out.1
        have hrm : r ≠ m:=fun e => HFR.out (by rw [← e];exact HRR.out.2.1)
        rw [upd_other _ _ hrm] at hrb
        obtain ⟨xs,hx1,_,hx2⟩:=HT1.out.rows m HCH.out.1
        obtain ⟨ys,hz1,hz2,_⟩:=HT1.out.rows r HRR.out.1
        have hx3:=HRK.out m HCH.out.1 xs hx1
        have hz3:=HRK.out r HRR.out.1 ys hz1
        have HX2:=hid (hx2 HFR.out)
        have HZ2:=hid (hz2 HRR.out.2.1)
        have hxl:=OwnL.few HX2.out (Nat.le_refl _)
        have hzl:=EndL.few HZ2.out
        obtain ⟨vm,hvm⟩ : ∃ vm,vm = ev m:=⟨_,rfl⟩
        obtain ⟨vr,hvr⟩ : ∃ vr,vr = ev r:=⟨_,rfl⟩
        rw [← hvm] at hmb hx3
        rw [← hvr] at hrb hz3
        obtain ⟨Am,cm,hfm⟩:=hx3.src.form
        obtain ⟨Ar,cr,hfr⟩:=hz3.src.form
        rw [hfm] at hmb hx3
        rw [hfr] at hrb hz3
        clear hvm hvr hfm hfr
        have HMB3:=hid hmb
        have HMB:=hid (hmb.below (Below.refl _ _).drew hmb.lt)
        have HRB:=hid (hrb.below (Below.refl _ _).drew hrb.lt)
        have HX3:=hid hx3
        have HZ3:=hid hz3
        have m1 : W3.drew.cell? ⟨m.b,1,none⟩ = some (.pointer (some ⟨r.b,0,none⟩)):=HMB.out.cell 1
        have m2 : W3.drew.cell? ⟨m.b,2,none⟩ = some (.slice Am xs.length cm):=HMB.out.cell 2
        have r2 : W3.drew.cell? ⟨r.b,2,none⟩ = some (.slice Ar ys.length cr):=HRB.out.cell 2
        obtain ⟨N,hN⟩ : ∃ N,N = (xs ++ ys).length:=⟨_,rfl⟩
        have HCC : Hid (Calls Tryz.prog 155 #[.slice (some ⟨W3.heap.size,0,none⟩) 2 2] ((W3.alloc (.cells #[(.slice Am xs.length cm),(.slice Ar ys.length cr)] 191)).drew) (fun e w' => ∃ A cap,e = .returned (.slice A N cap) ∧ RowK w0 w' (.slice A N cap) (xs ++ ys) ∧ Below W3.heap.size W3 w')):=hid (by
         have hbl : Below W3.heap.size W3 ((W3.alloc (.cells #[(.slice Am xs.length cm),(.slice Ar ys.length cr)] 191)).drew):=((Below.refl _ _).alloc (Nat.le_refl _) _).drew
         have hnew:=Blk.new W3 191 #[(.slice Am xs.length cm),(.slice Ar ys.length cr)]
         refine (Concat2I xs ys (.slice Am xs.length cm) (.slice Ar ys.length cr) W3.heap.size _ (HX3.out.src.below hbl) (HZ3.out.src.below hbl) (hnew.cell 0) (hnew.cell 1) hnew.lt (by omega)).mono ?_
         rintro e w' ⟨A,cap,rfl,hrow,hb⟩
         exact ⟨A,cap,by rw [hN],by rw [hN];exact hrow.base (Nat.le_trans hnet3.keep.size hbl.size),hbl.trans (hb.mono hbl.size)⟩)
        clear hnet3 hmb hrb hx1 hx2 hz1 hz2 hx3 hz3 hN
        have y2:=HMB.out.frozen 2
        have hzm:=HMB.out.lt
        clear hxl hzl
        go_region_with (go_at_call 155;refine HCC.out.mono ?_;rintro e w4 ⟨A4,cap4,rfl,hrow4,hb4⟩;have hm4:=HMB3.out.kept hb4;have m4 : w4.cell? ⟨m.b,2,none⟩ = some (.slice Am xs.length cm):=hm4.cell 2;have y4 : w4.frozen? ⟨m.b,2,none⟩ = false:=hm4.frozen 2)
        all_goals (
         have hmI:=HCH.out.1
         have HN5 : Hid (Net w0 Nb wv root Ks (upd bk m (.pointer (some ⟨r.b,0,none⟩))) (upd ev m (.slice A4 N cap4)) ch (w4.setCell ⟨m.b,2,none⟩ (.slice A4 N cap4))):=hid ((H3N.out.below hb4).setEnds hmI _)
         have HV5:=hid (hrow4.kept (grown_setK w4 ⟨m.b,2,none⟩ (.slice A4 N cap4)) (hrow4.not_blk hm4 (by decide)))
         have HK5 : Hid (∀ s ∈ Ks,s ≠ m → ∀ zs,RowK w0 w1 (ev s) zs → RowK w0 (w4.setCell ⟨m.b,2,none⟩ (.slice A4 N cap4)) (ev s) zs):=hid fun s hs _ zs q => by
          have q2:=(HRK.out s hs zs q).below hb4
          exact q2.kept (grown_setK w4 ⟨m.b,2,none⟩ (.slice A4 N cap4)) (q2.not_blk hm4 (by decide))
         have HT5:=hid (HT1.out.more hmI HCH.out.2.1 HFR.out HRR.out.1 HRR.out.2.1 HRR.out.2.2 HX2.out HZ2.out HN5.out HV5.out HK5.out)
         have HQ5:=hid (qu_cell (qu_below HQ3.out hb4) hm4 (by decide) 2 (.slice A4 N cap4))
         have HR5:=hid ((HR3.out.below hb4).cell hm4 2 (.slice A4 N cap4))
         have hfew2:=walk_few HT5.out.ord (fun x hx => (HT5.out.knots _).2 ⟨x,hx,rfl⟩) HT5.out.net.iu h1 (fun x hx => (HW2.out x hx).2)
         simp only [List.length_cons,List.length_append,List.length_nil] at hfew2
         generalize w4.setCell ⟨m.b,2,none⟩ (.slice A4 N cap4) = w5 at *
         clear m1 m2 r2 y2 m4 y4 hm4 hb4 hrow4 HN5 HV5 HK5 HX2 HZ2 HX3 HZ3 HMB3 HMB HRB HCC H3N HRK HQ3 HR3
         have hal : Below w5.heap.size w5 (w5.alloc (.cells #[.pointer (some ⟨m.b,0,none⟩)] 217)):=(Below.refl _ _).alloc (Nat.le_refl _) _
         have HQ6:=hid (qu_below HQ5.out hal)
         have HT6:=hid (HT5.out.below hal)
         have HR6:=hid (HR5.out.below hal)
         have HLEN : Hid ((ptrVals (k :: Q)).length = Q.length + 1):=hid (by simp [ptrVals])
         have HSZ:=hid HT6.out.net.keep.size
         have HC6 : Hid ((w5.alloc (.cells #[.pointer (some ⟨m.b,0,none⟩)] 217)).cell? ⟨w5.heap.size,0,none⟩ = some (.pointer (some ⟨m.b,0,none⟩))):=hid ((Blk.new w5 217 #[.pointer (some ⟨m.b,0,none⟩)]).cell 0)
         go_wp2_with (at_builtin;(refine wpList_app_q rfl (.tmp 78) (.tmp 80) _ rfl i0 _ 8 Tryz.underlying254 hi0 hz0 hz1 hz2 rfl (Q.length + 1) HLEN.out rfl HQ6.out HSZ.out (.pointer (some ⟨m.b,0,none⟩)) rfl w5.heap.size 1 rfl HC6.out (by unfold maxLen;omega) (by omega) ?_);intro g' o' c' w' hQ' hg' hat')
         have HT7:=hid (HT6.out.queue HQ6.out hg')
         have HR7:=hid (rg_qu HR6.out HQ6.out hg')
         have HQ7:=hid hQ'
         clear hQ' hat' hal
         have HX7 : Hid (TieAt w0 Nb wv root ws Ks ch D (k :: (Q ++ [m])) (XofK k fun a => left a ∧ ¬ a = c) (upd bk m (.pointer (some ⟨r.b,0,none⟩))) (upd ev m (.slice A4 N cap4)) w'):=hid (by
          have:=HT7.out
          rw [← XofK.step HCH.out.2.2] at this
          exact this)
         have HQ8 : Hid (Qu w' w0.heap.size 217 g' o' c' (ptrVals (k :: (Q ++ [m])))):=hid (by
          have:=HQ7.out
          unfold ptrVals kptr at this ⊢
          simpa using this)
         have hn8 : (Q ++ [m]).length + 1 = Q.length + 1 + 1:=by simp
         go_roundw
         case rel => exact ⟨Q ++ [m],_,_,g',o',c',Q.length + 1 + 1,cnt1,_,rfl,hn8,by omega,HX7,HQ8,HR7⟩
         case measure => rw [HR7.out.left_eq,HLE.out];exact hlt))
end Go.Proofs.YthhcpbfgoofppaaGreatDoor
