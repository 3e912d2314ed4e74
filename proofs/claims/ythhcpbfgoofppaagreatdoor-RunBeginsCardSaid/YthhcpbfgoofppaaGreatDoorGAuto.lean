/-
  AutoA, AutoB, AutoC, AutoD, AutoE, AutoF, AutoG.
-/
import Derived.Test.YthhcpbfgoofppaaGreatDoorGSim
import Derived.Test.YthhcpbfgoofppaaGreatDoorMap
import Derived.Test.YthhcpbfgoofppaaGreatDoorSort
import Derived.Deep.RegionHeld3
import Derived.WalkSpells
set_option linter.unusedVariables false
set_option linter.unusedSimpArgs false
set_option maxRecDepth 100000
set_option maxHeartbeats 8000000
open Go.Lib (hid)
namespace Wf
open Go Go.RowKit
def Fm (Own : Nat → Prop) (row : Option Nat) (w w' : World) : Prop:=∀ k,Own k → some k ≠ row → w'.heap[k]? = w.heap[k]?
theorem Blk.fm {Own : Nat → Prop} {row : Option Nat} {w w' : World} {k : Nat} {t : TypeId} {cs : Array Value} (h : Blk w k t cs) (ho : Own k) (hf : Fm Own row w w') (hn : some k ≠ row) : Blk w' k t cs:=(hf k ho hn).trans h
end Wf
namespace Go.Proofs.YthhcpbfgoofppaaGreatDoor
open Go.RowKit Wf
structure ASt where
 b : Nat
 m : Nat
 fs : List Nat
def ptrV (b : Nat) : Value:=.pointer (some ⟨b,0,none⟩)
def nameA (fs : List Nat) : ByteArray:=⟨(fs.map fun i => UInt8.ofNat i).toArray⟩
theorem nameA_inj {a b : List Nat} (ha : ∀ i ∈ a,i < 256) (hb : ∀ i ∈ b,i < 256) (h : nameA a = nameA b) : a = b:=by
 have h1 : a.map (fun i => UInt8.ofNat i) = b.map (fun i => UInt8.ofNat i):=by
  have:=congrArg (fun x : ByteArray => x.data.toList) h
  simpa [nameA] using this
 have h2:=congrArg (List.map fun c : UInt8 => c.toNat) h1
 rw [List.map_map,List.map_map] at h2
 have key : ∀ l : List Nat,(∀ i ∈ l,i < 256) → l.map ((fun c : UInt8 => c.toNat) ∘ fun i => UInt8.ofNat i) = l:=by
  intro l hl
  conv => rhs;rw [← List.map_id l]
  refine List.map_congr_left fun i hi => ?_
  have:=hl i hi
  simp
  omega
 rwa [key a ha,key b hb] at h2
section
variable {Own Own' : Nat → Prop} {row : Option Nat} {w w' : World}
theorem Mp.fm {α : Type} {mk : α → Value} {r : Nat} {l : List (α × Value)} (h : Mp w r mk l) (ho : Own r) (hf : Fm Own row w w') (hn : some r ≠ row) : Mp w' r mk l:=by
 obtain ⟨es,clock,hb,hr⟩:=h
 exact ⟨es,clock,(hf r ho hn).trans hb,hr⟩
theorem own_fm {base size n : Nat} {e : TypeId} {v : Value} {xs : List Value} (h : w.ownsRow base e size v n xs) (ho : ∀ g,v.ownBlock = some g → Own g) (hf : Fm Own row w w') (hn : ∀ g cs fr,row = some g → w.heap[g]? ≠ some (.cells cs e fr)) : w'.ownsRow base e size v n xs:=by
 refine ⟨h.1,?_⟩
 rcases h.2 with h0 | ⟨g,cap,cur,hv,h1,h2,rest⟩
 ·exact .inl h0
 ·refine .inr ⟨g,cap,cur,hv,h1,(hf g (ho g (by rw [hv];rfl)) (fun e => ?_)).trans h2,rest⟩
  exact hn g cur (0,0) e.symm h2
structure RowN (Own : Nat → Prop) (w : World) (v : Value) (xs : List Nat) : Prop where
 form : ∃ A cap,v = .slice A xs.length cap
 own : w.ownsRow 0 3 1 v xs.length (natVals xs)
 inn : ∀ g,v.ownBlock = some g → Own g
theorem RowN.fm {v : Value} {xs : List Nat} (h : RowN Own w v xs) (hf : Fm Own row w w') (hn : ∀ g cs fr,row = some g → w.heap[g]? ≠ some (.cells cs 3 fr)) : RowN Own w' v xs :=
 ⟨h.form,own_fm h.own h.inn hf hn,h.inn⟩
theorem RowN.mono {v : Value} {xs : List Nat} (h : RowN Own w v xs) (hs : ∀ k,Own k → Own' k) : RowN Own' w v xs:=⟨h.form,h.own,fun g hg => hs g (h.inn g hg)⟩
def NextIs (p : List St) (fs : List Nat) (c : Nat) (ts : List Nat) : Prop:=∃ L d,Front p false false fs L d ∧ Tidy (goL p c L) ts
def FrOk (p : List St) (Own : Nat → Prop) (w : World) (fs : List Nat) (fr : Value) : Prop :=
 fr = .pointer none ∨ ∃ fb sv d L,fr = ptrV fb ∧ Own fb ∧ Blk w fb 295 #[sv,.bool d] ∧ RowN Own w sv L ∧ Front p false false fs L d
theorem FrOk.fm {p : List St} {fs : List Nat} {fr : Value} (h : FrOk p Own w fs fr) (hf : Fm Own row w w') (hi : ∀ g cs fr,row = some g → w.heap[g]? ≠ some (.cells cs 3 fr)) (hn : ∀ g cs fr,row = some g → w.heap[g]? ≠ some (.cells cs 295 fr)) : FrOk p Own w' fs fr:=by
 rcases h with h | ⟨fb,sv,d,L,h1,h2,h3,h4,h5⟩
 ·exact .inl h
 ·exact .inr ⟨fb,sv,d,L,h1,h2,h3.fm h2 hf (fun e => hn fb _ _ e.symm h3),h4.fm hf hi,h5⟩
theorem FrOk.mono {p : List St} {fs : List Nat} {fr : Value} (h : FrOk p Own w fs fr) (hs : ∀ k,Own k → Own' k) : FrOk p Own' w fs fr:=by
 rcases h with h | ⟨fb,sv,d,L,h1,h2,h3,h4,h5⟩
 ·exact .inl h
 ·exact .inr ⟨fb,sv,d,L,h1,hs _ h2,h3,h4.mono hs,h5⟩
def byteK (b : Nat) : Value:=.int .u8 (b : Int)
def strK (s : ByteArray) : Value:=.string s
structure StMem (p : List St) (Ss : List ASt) (Own : Nat → Prop) (w : World) (s : ASt) (fv fr : Value) (N : List (Nat × Value)) : Prop where
 blk : Blk w s.b 274 #[fv,.map (some s.m),fr]
 row : RowN Own w fv s.fs
 map : Mp w s.m byteK N
 nxt : ∀ c v,getL N c = some v → ∃ t ∈ Ss,v = ptrV t.b ∧ NextIs p s.fs c t.fs
 frn : FrOk p Own w s.fs fr
structure StOk (p : List St) (Ss : List ASt) (Own : Nat → Prop) (w : World) (s : ASt) : Prop where
 ob : Own s.b
 om : Own s.m
 up : s.fs.Pairwise (· < ·)
 lt : ∀ j ∈ s.fs,j < p.length
 mem : ∃ fv fr N,StMem p Ss Own w s fv fr N
theorem StMem.fm {p : List St} {Ss : List ASt} {s : ASt} {fv fr : Value} {N : List (Nat × Value)} (h : StMem p Ss Own w s fv fr N) (hb : Own s.b) (hm : Own s.m) (hf : Fm Own row w w') (h1 : some s.b ≠ row) (h2 : some s.m ≠ row)
 (hi : ∀ g cs fr,row = some g → w.heap[g]? ≠ some (.cells cs 3 fr)) (hn : ∀ g cs fr,row = some g → w.heap[g]? ≠ some (.cells cs 295 fr)) : StMem p Ss Own w' s fv fr N :=
 ⟨h.blk.fm hb hf h1,h.row.fm hf hi,h.map.fm hm hf h2,h.nxt,h.frn.fm hf hi hn⟩
theorem StMem.mono {p : List St} {Ss Ss' : List ASt} {s : ASt} {fv fr : Value} {N : List (Nat × Value)} (h : StMem p Ss Own w s fv fr N) (hs : ∀ k,Own k → Own' k) (hS : ∀ t ∈ Ss,t ∈ Ss') : StMem p Ss' Own' w s fv fr N :=
 ⟨h.blk,h.row.mono hs,h.map,fun c v hv => by obtain ⟨t,ht,h⟩:=h.nxt c v hv;exact ⟨t,hS t ht,h⟩,h.frn.mono hs⟩
theorem StOk.fm {p : List St} {Ss : List ASt} {s : ASt} (h : StOk p Ss Own w s) (hf : Fm Own row w w') (h1 : some s.b ≠ row) (h2 : some s.m ≠ row)
 (hi : ∀ g cs fr,row = some g → w.heap[g]? ≠ some (.cells cs 3 fr)) (hn : ∀ g cs fr,row = some g → w.heap[g]? ≠ some (.cells cs 295 fr)) : StOk p Ss Own w' s:=by
 obtain ⟨fv,fr,N,hm⟩:=h.mem
 exact ⟨h.ob,h.om,h.up,h.lt,fv,fr,N,hm.fm h.ob h.om hf h1 h2 hi hn⟩
theorem StOk.mono {p : List St} {Ss Ss' : List ASt} {s : ASt} (h : StOk p Ss Own w s) (hs : ∀ k,Own k → Own' k) (hS : ∀ t ∈ Ss,t ∈ Ss') : StOk p Ss' Own' w s:=by
 obtain ⟨fv,fr,N,hm⟩:=h.mem
 exact ⟨hs _ h.ob,hs _ h.om,h.up,h.lt,fv,fr,N,hm.mono hs hS⟩
structure AEnv (p : List St) (a km : Nat) (pv : Value) (Own : Nat → Prop) (Ss : List ASt) (L : List (ByteArray × Value)) (w : World) : Prop where
 ba : Blk w a 267 #[pv,.map (some km)]
 oa : Own a
 ok : Own km
 lt : ∀ k,Own k → k < w.heap.size
 pr : w.ownsRow 0 262 7 pv p.length (p.flatMap stCells)
 po : ∀ g,pv.ownBlock = some g → Own g
 kn : Mp w km strK L
 ln : L.length ≤ 100
 ks : ∀ k v,getL L k = some v → ∃ s ∈ Ss,v = ptrV s.b ∧ k = nameA s.fs
 nb : ∀ s ∈ Ss,∀ t ∈ Ss,s.b = t.b → s = t
 nm : ∀ s ∈ Ss,∀ t ∈ Ss,s.m = t.m → s = t
 nk : ∀ s ∈ Ss,s.m ≠ km
 st : ∀ s ∈ Ss,StOk p Ss Own w s
variable {p : List St} {a km : Nat} {pv : Value} {Ss Ss' : List ASt} {L : List (ByteArray × Value)}
theorem AEnv.rds (h : AEnv p a km pv Own Ss L w) : RdS w pv p:=Rd.of_own h.pr
theorem AEnv.fm (h : AEnv p a km pv Own Ss L w) (hf : Fm Own none w w') (hs : w.heap.size ≤ w'.heap.size) : AEnv p a km pv Own Ss L w' :=
 ⟨h.ba.fm h.oa hf (by simp),h.oa,h.ok,fun k hk => Nat.lt_of_lt_of_le (h.lt k hk) hs,own_fm h.pr h.po hf (by simp),h.po,h.kn.fm h.ok hf (by simp),h.ln,h.ks,h.nb,h.nm,h.nk,fun s hs => (h.st s hs).fm hf (by simp) (by simp) (by simp) (by simp)⟩
theorem AEnv.below (h : AEnv p a km pv Own Ss L w) (hb : Below w.heap.size w w') : AEnv p a km pv Own Ss L w':=h.fm (fun k hk _ => hb.block k (h.lt k hk)) hb.size
theorem AEnv.grown (h : AEnv p a km pv Own Ss L w) (hg : w.grownBy w' row) (hn : ∀ g,row = some g → ¬ Own g) : AEnv p a km pv Own Ss L w' :=
 h.fm (fun k hk _ => hg.block k (h.lt k hk) (fun e => hn k e.symm hk)) hg.size
theorem AEnv.alloc (h : AEnv p a km pv Own Ss L w) (o : Obj) : AEnv p a km pv Own Ss L (w.alloc o):=h.fm (fun k hk _ => Below.heap_alloc w o k (h.lt k hk)) (by simp)
theorem AEnv.set_ (h : AEnv p a km pv Own Ss L w) {x : Addr} (hx : ¬ Own x.block) (u : Value) : AEnv p a km pv Own Ss L (w.setCell x u) :=
 h.fm (fun k hk _ => Below.heap_setCell w x u k (fun e => hx (by rw [← e];exact hk))) (by simp)
theorem fm_grown (h : AEnv p a km pv Own Ss L w) (hg : w.grownBy w' row) : Fm Own row w w':=fun k hk hn => hg.block k (h.lt k hk) hn
theorem mp_ne {α : Type} {mk : α → Value} {r : Nat} {l : List (α × Value)} (h : Mp w r mk l) (t : TypeId) : ∀ g cs fr,some r = some g → w.heap[g]? ≠ some (.cells cs t fr):=by
 intro g cs fr e
 obtain ⟨es,clock,hb,_⟩:=h
 cases e
 rw [hb]
 simp
theorem AEnv.reknown (h : AEnv p a km pv Own Ss L w) {L' : List (ByteArray × Value)} (hg : w.grownBy w' (some km)) (hm : Mp w' km strK L') (hl : L'.length ≤ 100) (hk : ∀ k v,getL L' k = some v → ∃ s ∈ Ss,v = ptrV s.b ∧ k = nameA s.fs) : AEnv p a km pv Own Ss L' w':=by
 have hf:=fm_grown h hg
 have hna : some a ≠ some km:=fun e => by
  obtain ⟨es,clock,hb,_⟩:=h.kn
  cases e
  have:=h.ba
  unfold Blk at this
  rw [hb] at this
  cases this
 refine ⟨h.ba.fm h.oa hf hna,h.oa,h.ok,fun k hk => Nat.lt_of_lt_of_le (h.lt k hk) hg.size,own_fm h.pr h.po hf (mp_ne h.kn _),h.po,hm,hl,hk,h.nb,h.nm,h.nk,fun s hs => ?_⟩
 refine (h.st s hs).fm hf (fun e => ?_) (fun e => h.nk s hs (by simpa using e)) (mp_ne h.kn _) (mp_ne h.kn _)
 obtain ⟨fv,fr,N,hm⟩:=(h.st s hs).mem
 exact mp_ne h.kn _ _ _ _ e.symm hm.blk
theorem AEnv.more (h : AEnv p a km pv Own Ss L w) (s : ASt) (hb : ¬ Own s.b) (hm : ¬ Own s.m) (hbl : s.b < w.heap.size) (hml : s.m < w.heap.size) (fv : Value) (hrow : ∃ A cap,fv = .slice A s.fs.length cap) (hown : w.ownsRow 0 3 1 fv s.fs.length (natVals s.fs))
 (hup : s.fs.Pairwise (· < ·)) (hlt : ∀ j ∈ s.fs,j < p.length) (hblk : Blk w s.b 274 #[fv,.map (some s.m),.pointer none]) (hmap : Mp w s.m byteK []) :
 AEnv p a km pv (fun k => Own k ∨ k = s.b ∨ k = s.m ∨ fv.ownBlock = some k) (s :: Ss) L w:=by
 have sub : ∀ k,Own k → (Own k ∨ k = s.b ∨ k = s.m ∨ fv.ownBlock = some k):=fun k hk => .inl hk
 have hS : ∀ t ∈ Ss,t ∈ s :: Ss:=fun t ht => List.mem_cons_of_mem _ ht
 have hne : ∀ t ∈ Ss,s.b ≠ t.b ∧ s.m ≠ t.m:=fun t ht => ⟨fun e => hb (by rw [e];exact (h.st t ht).ob),fun e => hm (by rw [e];exact (h.st t ht).om)⟩
 refine ⟨h.ba,.inl h.oa,.inl h.ok,?_,h.pr,fun g hg => .inl (h.po g hg),h.kn,h.ln,fun k v hv => ?_,?_,?_,?_,?_⟩
 ·rintro k (hk | rfl | rfl | hk)
  ·exact h.lt k hk
  ·exact hbl
  ·exact hml
  ·exact (hown.lt k hk).2
 ·obtain ⟨t,ht,r⟩:=h.ks k v hv
  exact ⟨t,hS t ht,r⟩
 ·intro x hx y hy e
  rcases List.mem_cons.1 hx with ex | hx
  ·rcases List.mem_cons.1 hy with ey | hy
   ·rw [ex,ey]
   ·exact absurd (by rw [← ex];exact e) (hne y hy).1
  ·rcases List.mem_cons.1 hy with ey | hy
   ·exact absurd (by rw [← ey];exact e.symm) (hne x hx).1
   ·exact h.nb x hx y hy e
 ·intro x hx y hy e
  rcases List.mem_cons.1 hx with ex | hx
  ·rcases List.mem_cons.1 hy with ey | hy
   ·rw [ex,ey]
   ·exact absurd (by rw [← ex];exact e) (hne y hy).2
  ·rcases List.mem_cons.1 hy with ey | hy
   ·exact absurd (by rw [← ey];exact e.symm) (hne x hx).2
   ·exact h.nm x hx y hy e
 ·intro x hx e
  rcases List.mem_cons.1 hx with rfl | hx
  ·exact hm (by rw [e];exact h.ok)
  ·exact h.nk x hx e
 ·intro x hx
  rcases List.mem_cons.1 hx with rfl | hx
  ·exact ⟨.inr (.inl rfl),.inr (.inr (.inl rfl)),hup,hlt,fv,_,[],hblk,⟨hrow,hown,fun g hg => .inr (.inr (.inr hg))⟩,hmap,fun c v hv => by simp [getL] at hv,.inl rfl⟩
  ·exact (h.st x hx).mono sub hS
theorem AEnv.front (h : AEnv p a km pv Own Ss L w) {s : ASt} (hs : s ∈ Ss) {fb : Nat} {sv : Value} {d : Bool} {fl : List Nat} (hfb : Own fb) (hblk : Blk w fb 295 #[sv,.bool d]) (hrow : RowN Own w sv fl) (hfr : Front p false false s.fs fl d) :
 AEnv p a km pv Own Ss L (w.setCell ⟨s.b,2,none⟩ (ptrV fb)):=by
 obtain ⟨fv,fr,N,hm⟩:=(h.st s hs).mem
 have hf : Fm Own (some s.b) w (w.setCell ⟨s.b,2,none⟩ (ptrV fb)):=fun k _ hn => Below.heap_setCell w _ _ k (fun e => hn (by rw [e]))
 have hne : ∀ t : TypeId,t ≠ 274 → ∀ g cs fr,some s.b = some g → w.heap[g]? ≠ some (.cells cs t fr):=by
  intro t ht g cs fr e1 e2
  cases e1
  have:=hm.blk
  unfold Blk at this
  rw [this] at e2
  simp at e2
  exact ht e2.2.1.symm
 have hmne : ∀ r,∀ {α : Type} {mk : α → Value} {l : List (α × Value)},Mp w r mk l → some r ≠ some s.b:=by
  intro r α mk l hr e
  cases e
  exact mp_ne hr _ _ _ _ rfl hm.blk
 have hna : some a ≠ some s.b:=fun e => hne 267 (by decide) _ _ _ e.symm h.ba
 refine ⟨h.ba.fm h.oa hf hna,h.oa,h.ok,fun k hk => by have:=h.lt k hk;simpa using this,own_fm h.pr h.po hf (hne _ (by decide)),h.po,h.kn.fm h.ok hf (hmne _ h.kn),h.ln,h.ks,h.nb,h.nm,h.nk,fun x hx => ?_⟩
 by_cases e : x = s
 ·subst e
  have hb2:=hm.blk.set_ 2 (ptrV fb)
  exact ⟨(h.st x hx).ob,(h.st x hx).om,(h.st x hx).up,(h.st x hx).lt,fv,_,N,hb2,hm.row.fm hf (hne _ (by decide)),hm.map.fm (h.st x hx).om hf (hmne _ hm.map),hm.nxt,
   .inr ⟨fb,sv,d,fl,rfl,hfb,hblk.fm hfb hf (fun e => hne 295 (by decide) _ _ _ e.symm hblk),hrow.fm hf (hne _ (by decide)),hfr⟩⟩
 ·obtain ⟨_,_,_,hm2⟩:=(h.st x hx).mem
  exact (h.st x hx).fm hf (fun e2 => e (h.nb x hx s hs (by simpa using e2))) (hmne _ hm2.map) (hne _ (by decide)) (hne _ (by decide))
theorem AEnv.next_ (h : AEnv p a km pv Own Ss L w) {s t : ASt} (hs : s ∈ Ss) (ht : t ∈ Ss) {fv fr : Value} {N : List (Nat × Value)} (hm : StMem p Ss Own w s fv fr N) {c : Nat} (hn : NextIs p s.fs c t.fs) (hg : w.grownBy w' (some s.m)) (hmp : Mp w' s.m byteK (putL N c (ptrV t.b))) :
 AEnv p a km pv Own Ss L w':=by
 have hf:=fm_grown h hg
 have hna : some a ≠ some s.m:=fun e => mp_ne hm.map _ _ _ _ e.symm h.ba
 have hmb : ∀ x ∈ Ss,some x.b ≠ some s.m:=by
  intro x hx e
  obtain ⟨_,_,_,hm2⟩:=(h.st x hx).mem
  exact mp_ne hm.map _ _ _ _ e.symm hm2.blk
 refine ⟨h.ba.fm h.oa hf hna,h.oa,h.ok,fun k hk => Nat.lt_of_lt_of_le (h.lt k hk) hg.size,own_fm h.pr h.po hf (mp_ne hm.map _),h.po,h.kn.fm h.ok hf (fun e => h.nk s hs (by simpa using e.symm)),h.ln,h.ks,h.nb,h.nm,h.nk,fun x hx => ?_⟩
 by_cases e : x = s
 ·subst e
  refine ⟨(h.st x hx).ob,(h.st x hx).om,(h.st x hx).up,(h.st x hx).lt,fv,fr,_,hm.blk.fm (h.st x hx).ob hf (hmb x hx),hm.row.fm hf (mp_ne hm.map _),hmp,fun c' v hv => ?_,hm.frn.fm hf (mp_ne hm.map _) (mp_ne hm.map _)⟩
  rw [getL_put] at hv
  split at hv
  ·rename_i e
   cases hv
   rw [e]
   exact ⟨t,ht,rfl,hn⟩
  ·exact hm.nxt c' v hv
 ·exact (h.st x hx).fm hf (hmb x hx) (fun e2 => e (h.nm x hx s hs (by simpa using e2))) (mp_ne hm.map _) (mp_ne hm.map _)
end
structure Gr (row : Option Nat) (Own Own' : Nat → Prop) (Ss Ss' : List ASt) (w w' : World) : Prop where
 os : w'.os = w.os
 tape : w'.tape = w.tape
 output : w'.output = w.output
 size : w.heap.size ≤ w'.heap.size
 kept : ∀ k,k < w.heap.size → ¬ Own k → some k ≠ row → w'.heap[k]? = w.heap[k]?
 sub : ∀ k,Own k → Own' k
 new : ∀ k,Own' k → Own k ∨ row = some k ∨ w.heap.size ≤ k
 ss : ∀ s ∈ Ss,s ∈ Ss'
theorem Gr.refl (row : Option Nat) (Own : Nat → Prop) (Ss : List ASt) (w : World) : Gr row Own Own Ss Ss w w:=⟨rfl,rfl,rfl,Nat.le_refl _,fun _ _ _ _ => rfl,fun _ h => h,fun _ h => .inl h,fun _ h => h⟩
theorem Gr.trans {Own Own1 Own2 : Nat → Prop} {row row1 : Option Nat} {Ss Ss1 Ss2 : List ASt} {w w1 w2 : World} (h : Gr row Own Own1 Ss Ss1 w w1) (k : Gr row1 Own1 Own2 Ss1 Ss2 w1 w2) (hr : ∀ g,row1 = some g → row = some g ∨ w.heap.size ≤ g) : Gr row Own Own2 Ss Ss2 w w2:=by
 refine ⟨k.os.trans h.os,k.tape.trans h.tape,k.output.trans h.output,Nat.le_trans h.size k.size,fun j hj hn hr2 => ?_,fun j hj => k.sub j (h.sub j hj),fun j hj => ?_,fun s hs => k.ss s (h.ss s hs)⟩
 ·rw [k.kept j (Nat.lt_of_lt_of_le hj h.size) (fun e => ?_) (fun e => ?_),h.kept j hj hn hr2]
  ·rcases h.new j e with e1 | e1 | e1
   ·exact hn e1
   ·exact hr2 e1.symm
   ·omega
  ·rcases hr j e.symm with e1 | e1
   ·exact hr2 e1.symm
   ·omega
 ·rcases k.new j hj with e | e | e
  ·exact h.new j e
  ·rcases hr j e with e1 | e1
   ·exact .inr (.inl e1)
   ·exact .inr (.inr e1)
  ·exact .inr (.inr (Nat.le_trans h.size e))
theorem Gr.of_below {Own : Nat → Prop} {Ss : List ASt} {w w' : World} (h : Below w.heap.size w w') : Gr none Own Own Ss Ss w w' :=
 ⟨h.os,h.tape,h.output,h.size,fun k hk _ _ => h.block k hk,fun _ h => h,fun _ h => .inl h,fun _ h => h⟩
theorem Gr.of_grown {Own : Nat → Prop} {row : Option Nat} {Ss : List ASt} {w w' : World} (h : w.grownBy w' row) : Gr row Own Own Ss Ss w w' :=
 ⟨h.os,h.tape,h.output,h.size,fun k hk _ hn => h.block k hk hn,fun _ h => h,fun _ h => .inl h,fun _ h => h⟩
theorem Gr.of_owned {Own : Nat → Prop} {g : Nat} {Ss : List ASt} {w w' : World} (h : w.grownBy w' (some g)) (hg : Own g) (row : Option Nat) : Gr row Own Own Ss Ss w w' :=
 ⟨h.os,h.tape,h.output,h.size,fun k hk hn _ => h.block k hk (fun e => hn (by cases e;exact hg)),fun _ h => h,fun _ h => .inl h,fun _ h => h⟩
theorem Gr.below {Own Own' : Nat → Prop} {Ss Ss' : List ASt} {w w' : World} {B : Nat} (h : Gr none Own Own' Ss Ss' w w') (hB : B ≤ w.heap.size) (ho : ∀ k,Own k → B ≤ k) : Below B w w' :=
 ⟨h.os,h.tape,h.output,h.size,fun k hk => h.kept k (by omega) (fun e => by have:=ho k e;omega) (by simp)⟩
theorem Gr.ge {Own Own' : Nat → Prop} {Ss Ss' : List ASt} {w w' : World} {B : Nat} (h : Gr none Own Own' Ss Ss' w w') (hB : B ≤ w.heap.size) (ho : ∀ k,Own k → B ≤ k) : ∀ k,Own' k → B ≤ k:=fun k hk => by
 rcases h.new k hk with e | e | e
 ·exact ho k e
 ·cases e
 ·omega
theorem info_u8 : (Tryz.prog.info? 5).map (fun i => (i.zero,i.size,i.bytes)) = some (some (.int .u8 0),1,1):=by kernel_rfl
def byteVals (xs : List Nat) : List Value:=xs.map fun (i : Nat) => Value.int .u8 (i : Int)
theorem byteVals_snoc (L : List Nat) (i : Nat) : byteVals (L ++ [i]) = byteVals L ++ [.int .u8 (i : Int)]:=by simp [byteVals]
theorem conv_name (xs : List Nat) (hx : ∀ i ∈ xs,i < 256) (base : Nat) (v : Value) (w : World) (h : w.ownsRow base 5 1 v xs.length (byteVals xs)) : (convert 30 9 v).run Tryz.prog w = .ok (.string (nameA xs)) w:=by
 obtain ⟨h1,h2⟩:=h
 rcases h2 with ⟨rfl,h0⟩ | ⟨g,cap,cur,rfl,h3,h4,h5,h6,h7,h8⟩
 ·have : xs = []:=List.eq_nil_of_length_eq_zero h0
  subst this
  exact run_convert_bytes_nil w 30 5 Tryz.underlying30 Tryz.underlying5 0 0 _ Tryz.underlying9
 ·have hb:=run_convert_bytes_back (P:=Tryz.prog) w 30 9 5 ⟨g,0,none⟩ cap (xs.map fun i => UInt8.ofNat i) Tryz.underlying30 Tryz.underlying5 Tryz.underlying9 (by
   intro j hj
   have hj' : j < xs.length:=by simpa using hj
   rw [add_mk,Nat.zero_add,cell_of_row w g j cur 5 (0,0) h4]
   have h9 : (cur.toList.take (xs.length * 1))[j]? = (byteVals xs)[j]?:=by rw [h8]
   rw [List.getElem?_take,if_pos (by omega)] at h9
   simp only [Array.getElem?_toList] at h9
   rw [h9]
   have:=hx _ (List.getElem_mem hj')
   simp [byteVals,hj',Nat.mod_eq_of_lt this])
  rw [List.length_map] at hb
  exact hb
def NameIs (xs : List Nat) (w : World) (e : Ending) (w' : World) : Prop:=e = .returned (.string (nameA xs)) ∧ Below w.heap.size w w'
theorem name_c (xs : List Nat) (hx : ∀ i ∈ xs,i < 256) (hl : xs.length ≤ 1000) (A : Option Addr) (cap : Nat) (w : World) (h : Rd1 w (.slice A xs.length cap) (natVals xs)) :
 Calls Tryz.prog 187 #[.slice A xs.length cap] w (NameIs xs w):=by
 obtain ⟨i0,hi0,hz0,hz1,hz2⟩:=info_parts info_u8
 obtain ⟨A',cap',hv,hcf,hcf2,hmf⟩:=Rd1.open_ h
 have hnl : (natVals xs).length = xs.length:=by simp [natVals]
 rw [hnl] at hv hcf hmf
 injection hv with e1 _ e2
 subst e1
 subst e2
 have HMF:=hid hmf
 have HX:=hid hx
 clear hmf h hx hnl
 go_enter Tryz.func187,Tryz.ntmps187
 go_wp2
 go_loopw [3,8] (fun v3 v8 wr => ∃ k : Nat,k ≤ xs.length ∧ v8 = .int .i64 (k : Int) ∧ Hid (wr.ownsRow w.heap.size 5 1 v3 (xs.take k).length (byteVals (xs.take k))) ∧ Hid (Below w.heap.size w wr)) (fun _ i _ => xs.length - (intOf i).toNat)
 case atStart => exact ⟨0,by omega,rfl,hid (World.ownsRow_nil _ _ _ _),hid (Below.refl _ _)⟩
 case round =>
  obtain ⟨k,hk,rfl,HO,HB⟩:=hrel
  by_cases hlt : k < xs.length
  ·obtain ⟨bf,of,rfl,hbf,hcf'⟩:=HMF.out (by omega)
   have hi : xs[k]? = some (xs[k]'hlt):=List.getElem?_eq_getElem hlt
   generalize xs[k]'hlt = i at hi
   have hin:=HX.out i (List.mem_of_getElem? hi)
   have g0:=hcf' wr (fun o => HB.out.cell (p:=⟨bf,o,none⟩) hbf) k (.int .i64 (i : Int)) (by simp [natVals,hi])
   have hk1 : (k : Int) < (xs.length : Int):=by omega
   have HSN : Hid (xs.take (k + 1) = xs.take k ++ [i]):=hid (by rw [take_snoc hi])
   have hlk : (xs.take k).length ≤ 1000:=by simp;omega
   have HL2:=hid (List.length_take_of_le (show k ≤ xs.length by omega))
   clear hi hcf'
   generalize hgo : xs.take k = go at *
   clear hgo
   go_wp2_with (at_builtin;refine wpList_append_own _ rfl (.tmp 12) (.tmp 15) _ rfl w.heap.size 5 i0 _ 1 1 Tryz.underlying30 hi0 hz0 hz1 hz2 rfl (by omega) _ go.length (byteVals go) rfl (HO.out.alloc _) ⟨wr.heap.size,0,none⟩ 1 1 [.int .u8 (i : Int)] rfl rfl (new_one _ _ _ _ rfl) (by intro u hu;simp at hu;subst hu;rfl) (by unfold maxLen;omega) (by omega) (by have:=HB.out.size;simp;omega) ?_)
   intro v' w' hown' hg' _
   have hbw : Below w.heap.size w (wr.alloc (.cells #[.int .u8 (i : Int)] 5)):=HB.out.alloc HB.out.size _
   have HBN:=hid (below_own hbw (Nat.le_refl _) (by have:=HB.out.size;simp;omega) (HO.out.alloc _) hg')
   have HON : Hid (w'.ownsRow w.heap.size 5 1 v' (xs.take (k + 1)).length (byteVals (xs.take (k + 1)))):=hid (by rw [HSN.out,byteVals_snoc];simpa using hown')
   clear hown' hg' hbw
   go_wp2
   go_roundw
   case rel => exact ⟨k + 1,by omega,by go_num,HON,HBN⟩
   case measure => simp [intOf];omega
  ·obtain rfl : k = xs.length:=by omega
   have hcv:=conv_name xs HX.out w.heap.size u3 wr (by have:=HO.out;rw [List.take_length] at this;exact this)
   go_wp2
   go_ret
   exact ⟨rfl,HB.out⟩
theorem str_key : KeyK Tryz.prog 9 strK:=string_key Tryz.underlying9
theorem u8_key : KeyK Tryz.prog 5 byteK:=byte_key Tryz.underlying5
def AOfIs (p : List St) (a km : Nat) (pv : Value) (Own : Nat → Prop) (Ss : List ASt) (row : Option Nat) (xs : List Nat) (w : World) (e : Ending) (w' : World) : Prop :=
 ∃ (Own' : Nat → Prop) (Ss' : List ASt) (L' : List (ByteArray × Value)) (s : ASt),e = .returned (.pointer (some ⟨s.b,0,none⟩)) ∧ s ∈ Ss' ∧ Tidy xs s.fs ∧ AEnv p a km pv Own' Ss' L' w' ∧ Gr row Own Own' Ss Ss' w w'
theorem Tidy.trans {xs ys zs : List Nat} (h : ∀ j,j ∈ ys ↔ j ∈ xs) (k : Tidy ys zs) : Tidy xs zs:=⟨fun j => (k.1 j).trans (h j),k.2⟩
theorem zero_state (W : World) : (zeroValue 269).run Tryz.prog W = .ok (.pointer none) W:=by kernel_rfl
theorem of_c (p : List St) (hp : p.length ≤ 200) (a km : Nat) (pv : Value) (Own : Nat → Prop) (Ss : List ASt) (L : List (ByteArray × Value)) (xs : List Nat) (v : Value) (w : World) (he : AEnv p a km pv Own Ss L w)
 (hv : w.ownsRow 0 3 1 v xs.length (natVals xs)) (hno : ∀ g,v.ownBlock = some g → ¬ Own g) (hlt : ∀ j ∈ xs,j < p.length) (hl : xs.length ≤ 1000) :
 Calls Tryz.prog 164 #[.pointer (some ⟨a,0,none⟩),v] w (AOfIs p a km pv Own Ss v.ownBlock xs w):=by
 have HE:=hid he
 have HV:=hid hv
 have HNO:=hid hno
 have HLT:=hid hlt
 obtain ⟨row,hrow⟩ : ∃ row,row = v.ownBlock:=⟨_,rfl⟩
 rw [← hrow]
 have HROW:=hid hrow
 clear he hv hno hlt hrow
 have hmm:=@run_makeMap Tryz.prog
 go_enter Tryz.func164,Tryz.ntmps164
 go_wp2_with fail
 refine (Sort_c 0 xs v w HV.out hl).mono ?_
 rintro e w1 ⟨rfl,ys,hyl,hym,hys,hown1,hg1⟩
 have HYM:=hid hym
 have HYS:=hid hys
 have HO1 : Hid (w1.ownsRow 0 3 1 v ys.length (natVals ys)):=hid (by rw [hyl];exact hown1)
 have HG1 : Hid (w.grownBy w1 row):=hid (by rw [HROW.out];exact hg1)
 have hyl2 : ys.length ≤ 1000:=by omega
 clear hyl hym hys hown1 hg1
 go_wp2_with fail
 refine (Compact_c 0 ys v w1 HO1.out HYS.out hyl2).mono ?_
 rintro e w2 ⟨A,cap,zs,rfl,hzl,hzt,hown2,hbl2,hg2⟩
 have HZT : Hid (Tidy xs zs):=hid (Tidy.trans HYM.out hzt)
 have HO2:=hid hown2
 have HG2 : Hid (w.grownBy w2 row):=hid (HG1.out.trans (by rw [HROW.out];exact hg2))
 have HB2 : Hid ((Value.slice A zs.length cap).ownBlock = row):=hid (by rw [HROW.out];exact hbl2)
 have hzl2 : zs.length ≤ 1000:=by omega
 have HZLT : Hid (∀ j ∈ zs,j < p.length):=hid (fun j hj => HLT.out j ((HZT.out.1 j).1 hj))
 have HE2:=hid (HE.out.grown HG2.out (fun g hg => HNO.out g (by rw [← HROW.out];exact hg)))
 clear hzt hown2 hbl2 hg2 HE HV HO1 HG1 HYM HYS
 go_wp2_with fail
 refine (name_c zs (fun i hi => by have:=HZLT.out i hi;omega) hzl2 A cap w2 (Rd.of_own HO2.out)).mono ?_
 rintro e w3 ⟨rfl,hb3⟩
 have HE3:=hid (HE2.out.below hb3)
 have HO3:=hid (own_below HO2.out hb3)
 have HG3 : Hid (Gr row Own Own Ss Ss w w3):=hid ((Gr.of_grown HG2.out).trans (Gr.of_below hb3) (by simp))
 have c1 : w3.cell? ⟨a,1,none⟩ = some (.map (some km)):=HE3.out.ba.cell 1
 clear hb3 HE2 HO2 HG2
 cases hk : getL L (nameA zs) with
 | some u =>
   have hlk:=HE3.out.kn.look_some str_key Tryz.underlying265 hk true
   obtain ⟨s,hs,rfl,hns⟩:=HE3.out.ks _ _ hk
   have hst:=HE3.out.st s hs
   have hzs:=nameA_inj (fun i hi => by have:=HZLT.out i hi;omega) (fun i hi => by have:=hst.lt i hi;omega) hns
   unfold ptrV strK at hlk
   simp only [if_true] at hlk
   have HS:=hid hs
   have HT : Hid (Tidy xs s.fs):=hid (by rw [← hzs];exact HZT.out)
   clear hk hs hns hst hzs
   go_wp2_with fail
   go_ret
   exact ⟨Own,Ss,L,s,rfl,HS.out,HT.out,HE3.out,HG3.out⟩
 | none =>
   have hlk:=HE3.out.kn.look_none str_key Tryz.underlying265 (zero_state w3) hk true
   unfold strK at hlk
   simp only [if_true] at hlk
   have hlen:=fun ty => HE3.out.kn.len Tryz.underlying265 ty
   have hL100:=HE3.out.ln
   have HK:=hid hk
   clear hk
   by_cases h100 : L.length = 100
   ·have hd : ((L.length : Int) == 100) = true:=by simp;omega
    obtain ⟨w4,hcl,hmp4,hg4,hsz4⟩:=HE3.out.kn.clear Tryz.underlying265
    have HE4:=hid (HE3.out.reknown hg4 hmp4 (by simp) (fun k v hv => by simp [getL] at hv))
    have HO4 : Hid (w4.ownsRow 0 3 1 (.slice A zs.length cap) zs.length (natVals zs)):=hid (HO3.out.kept hg4 (by
     cases hb : (Value.slice A zs.length cap).ownBlock with
     | none => exact .inl rfl
     | some g =>
       refine .inr (fun e => ?_)
       cases e
       exact HNO.out km (by rw [← HROW.out,← HB2.out,hb]) HE3.out.ok))
    have HG4 : Hid (Gr row Own Own Ss Ss w w4):=hid (HG3.out.trans (Gr.of_owned hg4 HE3.out.ok none) (by simp))
    have c4 : w4.cell? ⟨a,1,none⟩ = some (.map (some km)):=HE4.out.ba.cell 1
    have H100:=hid h100
    clear hmp4 hg4 hsz4 h100
    have hn4 : ([] : List (ByteArray × Value)).length ≤ 99:=by simp
    have ha4 : a < w4.heap.size:=HE4.out.lt a HE4.out.oa
    have HE5:=hid ((HE4.out.alloc (.map #[] 0)).alloc (.cells #[.slice A zs.length cap,.map (some w4.heap.size),.pointer none] 274))
    have HM5:=hid ((Mp.new w4 byteK).kept (World.grownBy_alloc (w4.alloc (.map #[] 0)) (.cells #[.slice A zs.length cap,.map (some w4.heap.size),.pointer none] 274) none) (by simp))
    have HB5:=hid (Blk.new (w4.alloc (.map #[] 0)) 274 #[.slice A zs.length cap,.map (some w4.heap.size),.pointer none])
    have HO5:=hid ((HO4.out.alloc (.map #[] 0)).alloc (.cells #[.slice A zs.length cap,.map (some w4.heap.size),.pointer none] 274))
    have hsz5 : (w4.alloc (.map #[] 0)).heap.size = w4.heap.size + 1:=by simp
    have HN5 : Hid ((fun b => ¬ Own b) w4.heap.size ∧ (fun b => ¬ Own b) (w4.heap.size + 1)):=hid ⟨fun h => by have:=HE4.out.lt _ h;omega,fun h => by have:=HE4.out.lt _ h;omega⟩
    obtain ⟨w6,hup,hmp6,hg6,hsz6⟩:=HE5.out.kn.update str_key Tryz.underlying265 (nameA zs) (ptrV (w4.heap.size + 1))
    have HSM:=hid (HE5.out.more ⟨w4.heap.size + 1,w4.heap.size,zs⟩ HN5.out.2 HN5.out.1 (by simp) (by simp;omega) (.slice A zs.length cap) ⟨A,cap,rfl⟩ HO5.out HZT.out.2 HZLT.out (by rw [← hsz5];exact HB5.out) HM5.out)
    have HE6:=hid (HSM.out.reknown hg6 hmp6 (by rw [put_len];split <;> omega) (fun k v hv => by
     rw [getL_put] at hv
     split at hv
     ·rename_i e
      cases hv
      exact ⟨_,List.mem_cons_self ..,rfl,e⟩
     ·exact HSM.out.ks k v hv))
    have HG6 : Hid (Gr row Own (fun k => Own k ∨ k = w4.heap.size + 1 ∨ k = w4.heap.size ∨ (Value.slice A zs.length cap).ownBlock = some k) Ss (⟨w4.heap.size + 1,w4.heap.size,zs⟩ :: Ss) w w6):=hid (by
     have h5:=(HG4.out.trans (Gr.of_below (((Below.refl _ _).alloc (Nat.le_refl _) (.map #[] 0)).alloc (by simp) (.cells #[.slice A zs.length cap,.map (some w4.heap.size),.pointer none] 274))) (by simp)).trans (Gr.of_owned hg6 HE5.out.ok none) (by simp)
     exact ⟨h5.os,h5.tape,h5.output,h5.size,h5.kept,fun k hk => .inl hk,fun k hk => by
      rcases hk with hk | rfl | rfl | hk
      ·exact .inl hk
      ·exact .inr (.inr (by have:=HG4.out.size;omega))
      ·exact .inr (.inr (HG4.out.size))
      ·exact .inr (.inl (by rw [← HB2.out,hk])),fun s hs => List.mem_cons_of_mem _ hs⟩)
    unfold strK ptrV at hup
    clear hmp6 hg6 hsz6 hsz5
    go_wp2_with fail
    go_ret
    exact ⟨_,_,_,⟨w4.heap.size + 1,w4.heap.size,zs⟩,rfl,List.mem_cons_self ..,HZT.out,HE6.out,HG6.out⟩
   ·have hd : ((L.length : Int) == 100) = false:=by simp;omega
    have HE4:=HE3
    have HO4:=HO3
    have HG4:=HG3
    have hn4 : L.length ≤ 99:=by omega
    have ha4 : a < w3.heap.size:=HE4.out.lt a HE4.out.oa
    have HE5:=hid ((HE4.out.alloc (.map #[] 0)).alloc (.cells #[.slice A zs.length cap,.map (some w3.heap.size),.pointer none] 274))
    have HM5:=hid ((Mp.new w3 byteK).kept (World.grownBy_alloc (w3.alloc (.map #[] 0)) (.cells #[.slice A zs.length cap,.map (some w3.heap.size),.pointer none] 274) none) (by simp))
    have HB5:=hid (Blk.new (w3.alloc (.map #[] 0)) 274 #[.slice A zs.length cap,.map (some w3.heap.size),.pointer none])
    have HO5:=hid ((HO4.out.alloc (.map #[] 0)).alloc (.cells #[.slice A zs.length cap,.map (some w3.heap.size),.pointer none] 274))
    have hsz5 : (w3.alloc (.map #[] 0)).heap.size = w3.heap.size + 1:=by simp
    have HN5 : Hid ((fun b => ¬ Own b) w3.heap.size ∧ (fun b => ¬ Own b) (w3.heap.size + 1)):=hid ⟨fun h => by have:=HE4.out.lt _ h;omega,fun h => by have:=HE4.out.lt _ h;omega⟩
    obtain ⟨w6,hup,hmp6,hg6,hsz6⟩:=HE5.out.kn.update str_key Tryz.underlying265 (nameA zs) (ptrV (w3.heap.size + 1))
    have HSM:=hid (HE5.out.more ⟨w3.heap.size + 1,w3.heap.size,zs⟩ HN5.out.2 HN5.out.1 (by simp) (by simp;omega) (.slice A zs.length cap) ⟨A,cap,rfl⟩ HO5.out HZT.out.2 HZLT.out (by rw [← hsz5];exact HB5.out) HM5.out)
    have HE6:=hid (HSM.out.reknown hg6 hmp6 (by rw [put_len];split <;> omega) (fun k v hv => by
     rw [getL_put] at hv
     split at hv
     ·rename_i e
      cases hv
      exact ⟨_,List.mem_cons_self ..,rfl,e⟩
     ·exact HSM.out.ks k v hv))
    have HG6 : Hid (Gr row Own (fun k => Own k ∨ k = w3.heap.size + 1 ∨ k = w3.heap.size ∨ (Value.slice A zs.length cap).ownBlock = some k) Ss (⟨w3.heap.size + 1,w3.heap.size,zs⟩ :: Ss) w w6):=hid (by
     have h5:=(HG4.out.trans (Gr.of_below (((Below.refl _ _).alloc (Nat.le_refl _) (.map #[] 0)).alloc (by simp) (.cells #[.slice A zs.length cap,.map (some w3.heap.size),.pointer none] 274))) (by simp)).trans (Gr.of_owned hg6 HE5.out.ok none) (by simp)
     exact ⟨h5.os,h5.tape,h5.output,h5.size,h5.kept,fun k hk => .inl hk,fun k hk => by
      rcases hk with hk | rfl | rfl | hk
      ·exact .inl hk
      ·exact .inr (.inr (by have:=HG4.out.size;omega))
      ·exact .inr (.inr (HG4.out.size))
      ·exact .inr (.inl (by rw [← HB2.out,hk])),fun s hs => List.mem_cons_of_mem _ hs⟩)
    unfold strK ptrV at hup
    clear hmp6 hg6 hsz6 hsz5
    go_wp2_with fail
    go_ret
    exact ⟨_,_,_,⟨w3.heap.size + 1,w3.heap.size,zs⟩,rfl,List.mem_cons_self ..,HZT.out,HE6.out,HG6.out⟩
def WithinIs (p : List St) (a km : Nat) (pv : Value) (Own : Nat → Prop) (Ss : List ASt) (L : List (ByteArray × Value)) (s : ASt) (w : World) (e : Ending) (w' : World) : Prop :=
 ∃ (A : Option Addr) (cap : Nat) (fl : List Nat) (d : Bool) (Own' : Nat → Prop),e = .returned (.agg #[.slice A fl.length cap,.bool d]) ∧ Front p false false s.fs fl d ∧ w'.ownsRow 0 3 1 (.slice A fl.length cap) fl.length (natVals fl) ∧ AEnv p a km pv Own' Ss L w' ∧ Gr none Own Own' Ss Ss w w'
section
variable {p : List St} {a km : Nat} {pv : Value} {Own : Nat → Prop} {Ss : List ASt} {L : List (ByteArray × Value)} {w : World}
theorem AEnv.fmono {Own' : Nat → Prop} (h : AEnv p a km pv Own Ss L w) (hs : ∀ k,Own k → Own' k) (hl : ∀ k,Own' k → k < w.heap.size) : AEnv p a km pv Own' Ss L w :=
 ⟨h.ba,hs _ h.oa,hs _ h.ok,hl,h.pr,fun g hg => hs g (h.po g hg),h.kn,h.ln,h.ks,h.nb,h.nm,h.nk,fun s hs' => (h.st s hs').mono hs fun _ ht => ht⟩
theorem AEnv.fronted (h : AEnv p a km pv Own Ss L w) {s : ASt} (hs : s ∈ Ss) {fb : Nat} {A : Option Addr} {cap : Nat} {d : Bool} {fl : List Nat} (hblk : Blk w fb 295 #[.slice A fl.length cap,.bool d]) (hown : w.ownsRow 0 3 1 (.slice A fl.length cap) fl.length (natVals fl)) (hfr : Front p false false s.fs fl d) :
 AEnv p a km pv (fun k => Own k ∨ k = fb ∨ (Value.slice A fl.length cap).ownBlock = some k) Ss L (w.setCell ⟨s.b,2,none⟩ (.pointer (some ⟨fb,0,none⟩))):=by
 have h2:=h.fmono (Own':=fun k => Own k ∨ k = fb ∨ (Value.slice A fl.length cap).ownBlock = some k) (fun k hk => .inl hk) (fun k hk => by
  rcases hk with hk | rfl | hk
  ·exact h.lt k hk
  ·exact hblk.lt
  ·exact (hown.lt k hk).2)
 exact h2.front hs (.inr (.inl rfl)) hblk ⟨⟨A,cap,rfl⟩,hown,fun g hg => .inr (.inr hg)⟩ hfr
end
theorem within_c (p : List St) (hp : okP p) (a km : Nat) (pv : Value) (Own : Nat → Prop) (Ss : List ASt) (L : List (ByteArray × Value)) (s : ASt) (hs : s ∈ Ss) (w : World) (he : AEnv p a km pv Own Ss L w) :
 Calls Tryz.prog 190 #[.pointer (some ⟨a,0,none⟩),.pointer (some ⟨s.b,0,none⟩)] w (WithinIs p a km pv Own Ss L s w):=by
 have HE:=hid he
 have hst:=he.st s hs
 obtain ⟨fv,fr,N,hm⟩:=hst.mem
 have c0 : w.cell? ⟨a,0,none⟩ = some pv:=he.ba.cell 0
 have d0 : w.cell? ⟨s.b,0,none⟩ = some fv:=hm.blk.cell 0
 have d2 : w.cell? ⟨s.b,2,none⟩ = some fr:=hm.blk.cell 2
 have z2 : w.frozen? ⟨s.b,2,none⟩ = false:=hm.blk.frozen 2
 have ha : a < w.heap.size:=he.lt a he.oa
 have hb : s.b < w.heap.size:=he.lt _ hst.ob
 have HROW:=hid hm.row
 have HMB:=hid hm.blk
 have HS0:=hid hs
 have HLT:=hid hst.lt
 rcases hm.frn with rfl | ⟨fb,sv,d,fl,rfl,hfb,hblk,hrow,hfr⟩
 ·clear he hst hm hs
  go_enter Tryz.func190,Tryz.ntmps190
  go_wp2_with fail
  obtain ⟨W,hW⟩ : ∃ W,W = w.alloc (.cells #[.slice none 0 0,.bool false] 295):=⟨_,rfl⟩
  have HEW:=hid (HE.out.alloc (.cells #[.slice none 0 0,.bool false] 295))
  have HBW:=hid ((Below.refl w.heap.size w).alloc (Nat.le_refl _) (.cells #[.slice none 0 0,.bool false] 295))
  have HRW:=hid (Blk.new w 295 #[.slice none 0 0,.bool false])
  rw [← hW] at HEW HBW HRW ⊢
  have hWs : W.heap.size = w.heap.size + 1:=by rw [hW];simp
  have HWS:=hid hWs
  clear hW hWs
  have hS : ∀ w',Below W.heap.size W w' → (w'.cell? ⟨a,0,none⟩ = some pv ∧ w'.cell? ⟨s.b,0,none⟩ = some fv ∧ Below W.heap.size W w'):=fun w' hb => by
   have hk:=HEW.out.below hb
   exact ⟨hk.ba.cell 0,((HMB.out.kept HBW.out).kept hb).cell 0,hb⟩
  have HS:=hid hS
  have HSP : Hid (∀ w',Below W.heap.size W w' → Calls Tryz.prog 188 #[pv,fv,.bool false,.bool false] w' (SpreadIs p false false s.fs w')):=hid (fun w' hb => by
   have hk:=HEW.out.below hb
   exact Spread_any p hp pv fv s.fs HLT.out false false w' hk.rds (Rd.of_own (own_below (own_below HROW.out.own HBW.out) hb)))
  have B0 : Below W.heap.size W W.drew:=(Below.refl _ _).drew
  clear hS
  have B1 : Below W.heap.size W (W.alloc (.cells #[.slice none 0 0,.bool false] 295)).drew:=((Below.refl _ _).alloc (Nat.le_refl _) _).drew
  have HN1:=hid (Blk.new W 295 #[.slice none 0 0,.bool false])
  have HTOK:=hid (trivial)
  go_region_held3 (fun w' => w'.cell? ⟨a,0,none⟩ = some pv ∧ w'.cell? ⟨s.b,0,none⟩ = some fv ∧ Below W.heap.size W w')
   (exact HS.out _ (by first | assumption | exact Below.alloc (by assumption) (by assumption : Below W.heap.size W _).size _ | exact ((by assumption : Below W.heap.size W _).setCell (Nat.le_refl _) _).setCell (Nat.le_refl _) _))
   (first
     | (go_at_call 188;(with_reducible refine (HSP.out ((W.alloc (.cells #[.slice none 0 0,.bool false] 295)).drew) B1).mono ?_);rintro e w2 ⟨A2,cap2,fl,d,rfl,hfr,hown2,hb2⟩;have hk2:=HN1.out.drew.kept hb2;have k0 : w2.cell? ⟨W.heap.size,0,none⟩ = some (.slice none 0 0):=hk2.cell 0;have k1 : w2.cell? ⟨W.heap.size,1,none⟩ = some (.bool false):=hk2.cell 1;have y0 : w2.frozen? ⟨W.heap.size,0,none⟩ = false:=hk2.frozen 0;have y1 : w2.frozen? ⟨W.heap.size,1,none⟩ = false:=hk2.frozen 1;have hB2 : Below W.heap.size W w2:=B1.trans (hb2.mono B1.size))
     | (go_at_call 188;(with_reducible refine (HSP.out W.drew B0).mono ?_);rintro e w2 ⟨A2,cap2,fl,d,rfl,hfr,hown2,hb2⟩;have hB2 : Below W.heap.size W w2:=B0.trans (hb2.mono B0.size)))
  ·have HBL:=hid (hB2.alloc hB2.size (.cells #[.slice A2 fl.length cap2,.bool d] 295))
   obtain ⟨W2,hW2⟩ : ∃ W2,W2 = w2.alloc (.cells #[.slice A2 fl.length cap2,.bool d] 295):=⟨_,rfl⟩
   rw [← hW2] at HBL ⊢
   have HK2 : Hid (Blk W2 w2.heap.size 295 #[.slice A2 fl.length cap2,.bool d]):=hid (by rw [hW2];exact Blk.new w2 295 #[.slice A2 fl.length cap2,.bool d])
   have HO2 : Hid (W2.ownsRow 0 3 1 (.slice A2 fl.length cap2) fl.length (natVals fl)):=hid (by rw [hW2];exact (own_base hown2 (Nat.zero_le _)).alloc _)
   have hfbs : W.heap.size ≤ w2.heap.size:=by exact hB2.size
   have HOB : Hid (∀ g,(Value.slice A2 fl.length cap2).ownBlock = some g → W.heap.size ≤ g):=hid (fun g hg => by have:=(hown2.lt g hg).1;simp at this;omega)
   have HFR:=hid hfr
   clear hW2 hB2 hb2 hown2 hfr 
   have HE2:=hid (HEW.out.below HBL.out)
   have HM2:=hid ((HMB.out.kept HBW.out).kept HBL.out)
   have HR2:=hid (HRW.out.kept HBL.out)
   have x2 : W2.cell? ⟨s.b,2,none⟩ = some (.pointer none):=HM2.out.cell 2
   have x3 : W2.frozen? ⟨s.b,2,none⟩ = false:=HM2.out.frozen 2
   have x4 : W2.cell? ⟨w.heap.size,0,none⟩ = some (.slice none 0 0):=HR2.out.cell 0
   have x5 : W2.cell? ⟨w.heap.size,1,none⟩ = some (.bool false):=HR2.out.cell 1
   have x6 : W2.frozen? ⟨w.heap.size,0,none⟩ = false:=HR2.out.frozen 0
   have x7 : W2.frozen? ⟨w.heap.size,1,none⟩ = false:=HR2.out.frozen 1
   have x8 : W2.cell? ⟨w2.heap.size,0,none⟩ = some (.slice A2 fl.length cap2):=HK2.out.cell 0
   have x9 : W2.cell? ⟨w2.heap.size,1,none⟩ = some (.bool d):=HK2.out.cell 1
   have n1 : s.b ≠ w2.heap.size:=by have:=HWS.out;omega
   have n2 : w.heap.size ≠ w2.heap.size:=by have:=HWS.out;omega
   have n3 : w.heap.size ≠ s.b:=by omega
   generalize w2.heap.size = fb at HK2 x8 x9 n1 n2 hfbs ⊢
   have n4 : fb ≠ s.b:=Ne.symm n1
   have n5 : fb ≠ w.heap.size:=Ne.symm n2
   have n6 : s.b ≠ w.heap.size:=Ne.symm n3
   have HN:=hid (And.intro n1 (And.intro n2 n3))
   go_wp2_with fail
   have hf3:=HE2.out.fronted HS0.out HK2.out HO2.out HFR.out
   have hg3 : W2.grownBy (W2.setCell ⟨s.b,2,none⟩ (.pointer (some ⟨fb,0,none⟩))) (some s.b):=⟨rfl,rfl,rfl,by simp,fun k _ hk => Below.heap_setCell W2 _ _ k (fun e => hk (by rw [e]))⟩
   have ho3 : (W2.setCell ⟨s.b,2,none⟩ (.pointer (some ⟨fb,0,none⟩))).ownsRow 0 3 1 (.slice A2 fl.length cap2) fl.length (natVals fl):=own_fm (Own:=fun k => (Value.slice A2 fl.length cap2).ownBlock = some k) HO2.out (fun g hg => hg) (fun k hk hn => Below.heap_setCell W2 _ _ k (fun e => hn (by rw [e]))) (fun g cs fr e hh => by
    cases e
    have:=HM2.out
    unfold Blk at this
    rw [this] at hh
    simp at hh)
   have hob:=HOB.out
   have hws:=HWS.out
   have hsz : w.heap.size ≤ W2.heap.size:=by have:=HBL.out.size;omega
   have hnO : ¬ (Own w.heap.size ∨ w.heap.size = fb ∨ (Value.slice A2 fl.length cap2).ownBlock = some w.heap.size):=by
    rintro (h | h | h)
    ·have:=HE.out.lt _ h;omega
    ·exact HN.out.2.1 h
    ·have:=hob _ h;omega
   have hk:=((HR2.out.far (p:=⟨s.b,2,none⟩) (fun e => HN.out.2.2 e) (.pointer (some ⟨fb,0,none⟩))).set_ 0 (.slice A2 fl.length cap2)).set_ 1 (.bool d)
   have hg4 : (W2.setCell ⟨s.b,2,none⟩ (.pointer (some ⟨fb,0,none⟩))).grownBy (((W2.setCell ⟨s.b,2,none⟩ (.pointer (some ⟨fb,0,none⟩))).setCell ⟨w.heap.size,0,none⟩ (.slice A2 fl.length cap2)).setCell ⟨w.heap.size,1,none⟩ (.bool d)) (some w.heap.size):=⟨rfl,rfl,rfl,by simp,fun q hq hne => by
    rw [Below.heap_setCell _ _ _ q (fun e => hne (by rw [e])),Below.heap_setCell _ _ _ q (fun e => hne (by rw [e]))]⟩
   refine bodyPost_ret (v:=.agg #[.slice A2 fl.length cap2,.bool d]) ?_ rfl ⟨A2,cap2,fl,d,_,rfl,HFR.out,?_,(hf3.set_ hnO _).set_ hnO _,?_⟩
   ·have k0:=hk.cell 0
    have k1:=hk.cell 1
    simp only [Array.getElem?_setIfInBounds] at k0 k1
    simp [results,Tryz.results190,go_sem,k0,k1]
   ·refine ho3.kept hg4 ?_
    cases hv : (Value.slice A2 fl.length cap2).ownBlock with
    | none => exact .inl rfl
    | some q => exact .inr (fun e => by have:=hob q hv;simp at e;omega)
   ·have hBw : Below w.heap.size w W2:=HBW.out.trans (HBL.out.mono (by omega))
    have hg:=(hBw.setCell (p:=⟨w.heap.size,0,none⟩) (Nat.le_refl _) (.slice A2 fl.length cap2))
    refine ⟨hBw.os,hBw.tape,hBw.output,by simp;exact hsz,fun k hk hn _ => ?_,fun k hk => .inl hk,fun k hk => ?_,fun _ h => h⟩
    ·rw [hg4.block k (by simp;omega) (fun e => by cases e;omega),Below.heap_setCell W2 _ _ k (fun e => hn (by rw [e];exact (HE.out.st s HS0.out).ob))]
     exact hBw.block k hk
    ·rcases hk with h | h | h
     ·exact .inl h
     ·exact .inr (.inr (by omega))
     ·exact .inr (.inr (by have:=hob _ h;omega))
  ·have HBL:=hid ((hB2.setCell (p:=⟨W.heap.size,0,none⟩) (Nat.le_refl _) (.slice A2 fl.length cap2)).setCell (p:=⟨W.heap.size,1,none⟩) (Nat.le_refl _) (.bool d))
   obtain ⟨W2,hW2⟩ : ∃ W2,W2 = (w2.setCell ⟨W.heap.size,0,none⟩ (.slice A2 fl.length cap2)).setCell ⟨W.heap.size,1,none⟩ (.bool d):=⟨_,rfl⟩
   rw [← hW2] at HBL ⊢
   have HK2 : Hid (Blk W2 W.heap.size 295 #[.slice A2 fl.length cap2,.bool d]):=hid (by rw [hW2];exact (hk2.set_ 0 (.slice A2 fl.length cap2)).set_ 1 (.bool d))
   have HO2 : Hid (W2.ownsRow 0 3 1 (.slice A2 fl.length cap2) fl.length (natVals fl)):=hid (by
    rw [hW2]
    refine own_fm (Own:=fun k => (Value.slice A2 fl.length cap2).ownBlock = some k) (row:=some W.heap.size) (own_base hown2 (Nat.zero_le _)) (fun g hg => hg) (fun k hk hn => ?_) (fun g cs fr e hh => ?_)
    ·rw [Below.heap_setCell _ _ _ k (fun e => hn (by rw [e])),Below.heap_setCell _ _ _ k (fun e => hn (by rw [e]))]
    ·cases e
     have:=hk2
     unfold Blk at this
     rw [this] at hh
     simp at hh)
   have hfbs : W.heap.size ≤ W.heap.size:=by exact Nat.le_refl _
   have HOB : Hid (∀ g,(Value.slice A2 fl.length cap2).ownBlock = some g → W.heap.size ≤ g):=hid (fun g hg => by have:=(hown2.lt g hg).1;simp at this;omega)
   have HFR:=hid hfr
   clear hW2 hB2 hb2 hown2 hfr hk2 k0 k1 y0 y1
   have HE2:=hid (HEW.out.below HBL.out)
   have HM2:=hid ((HMB.out.kept HBW.out).kept HBL.out)
   have HR2:=hid (HRW.out.kept HBL.out)
   have x2 : W2.cell? ⟨s.b,2,none⟩ = some (.pointer none):=HM2.out.cell 2
   have x3 : W2.frozen? ⟨s.b,2,none⟩ = false:=HM2.out.frozen 2
   have x4 : W2.cell? ⟨w.heap.size,0,none⟩ = some (.slice none 0 0):=HR2.out.cell 0
   have x5 : W2.cell? ⟨w.heap.size,1,none⟩ = some (.bool false):=HR2.out.cell 1
   have x6 : W2.frozen? ⟨w.heap.size,0,none⟩ = false:=HR2.out.frozen 0
   have x7 : W2.frozen? ⟨w.heap.size,1,none⟩ = false:=HR2.out.frozen 1
   have x8 : W2.cell? ⟨W.heap.size,0,none⟩ = some (.slice A2 fl.length cap2):=HK2.out.cell 0
   have x9 : W2.cell? ⟨W.heap.size,1,none⟩ = some (.bool d):=HK2.out.cell 1
   have n1 : s.b ≠ W.heap.size:=by have:=HWS.out;omega
   have n2 : w.heap.size ≠ W.heap.size:=by have:=HWS.out;omega
   have n3 : w.heap.size ≠ s.b:=by omega
   have hfbs2:=hfbs
   obtain ⟨fb,hfb⟩ : ∃ fb,fb = W.heap.size:=⟨_,rfl⟩
   rw [← hfb] at HK2 x8 x9 n1 n2 ⊢
   rw [show (W.heap.size ≤ W.heap.size) = (W.heap.size ≤ fb) by rw [hfb]] at hfbs
   clear hfb hfbs2
   have n4 : fb ≠ s.b:=Ne.symm n1
   have n5 : fb ≠ w.heap.size:=Ne.symm n2
   have n6 : s.b ≠ w.heap.size:=Ne.symm n3
   have HN:=hid (And.intro n1 (And.intro n2 n3))
   go_wp2_with fail
   have hf3:=HE2.out.fronted HS0.out HK2.out HO2.out HFR.out
   have hg3 : W2.grownBy (W2.setCell ⟨s.b,2,none⟩ (.pointer (some ⟨fb,0,none⟩))) (some s.b):=⟨rfl,rfl,rfl,by simp,fun k _ hk => Below.heap_setCell W2 _ _ k (fun e => hk (by rw [e]))⟩
   have ho3 : (W2.setCell ⟨s.b,2,none⟩ (.pointer (some ⟨fb,0,none⟩))).ownsRow 0 3 1 (.slice A2 fl.length cap2) fl.length (natVals fl):=own_fm (Own:=fun k => (Value.slice A2 fl.length cap2).ownBlock = some k) HO2.out (fun g hg => hg) (fun k hk hn => Below.heap_setCell W2 _ _ k (fun e => hn (by rw [e]))) (fun g cs fr e hh => by
    cases e
    have:=HM2.out
    unfold Blk at this
    rw [this] at hh
    simp at hh)
   have hob:=HOB.out
   have hws:=HWS.out
   have hsz : w.heap.size ≤ W2.heap.size:=by have:=HBL.out.size;omega
   have hnO : ¬ (Own w.heap.size ∨ w.heap.size = fb ∨ (Value.slice A2 fl.length cap2).ownBlock = some w.heap.size):=by
    rintro (h | h | h)
    ·have:=HE.out.lt _ h;omega
    ·exact HN.out.2.1 h
    ·have:=hob _ h;omega
   have hk:=((HR2.out.far (p:=⟨s.b,2,none⟩) (fun e => HN.out.2.2 e) (.pointer (some ⟨fb,0,none⟩))).set_ 0 (.slice A2 fl.length cap2)).set_ 1 (.bool d)
   have hg4 : (W2.setCell ⟨s.b,2,none⟩ (.pointer (some ⟨fb,0,none⟩))).grownBy (((W2.setCell ⟨s.b,2,none⟩ (.pointer (some ⟨fb,0,none⟩))).setCell ⟨w.heap.size,0,none⟩ (.slice A2 fl.length cap2)).setCell ⟨w.heap.size,1,none⟩ (.bool d)) (some w.heap.size):=⟨rfl,rfl,rfl,by simp,fun q hq hne => by
    rw [Below.heap_setCell _ _ _ q (fun e => hne (by rw [e])),Below.heap_setCell _ _ _ q (fun e => hne (by rw [e]))]⟩
   refine bodyPost_ret (v:=.agg #[.slice A2 fl.length cap2,.bool d]) ?_ rfl ⟨A2,cap2,fl,d,_,rfl,HFR.out,?_,(hf3.set_ hnO _).set_ hnO _,?_⟩
   ·have k0:=hk.cell 0
    have k1:=hk.cell 1
    simp only [Array.getElem?_setIfInBounds] at k0 k1
    simp [results,Tryz.results190,go_sem,k0,k1]
   ·refine ho3.kept hg4 ?_
    cases hv : (Value.slice A2 fl.length cap2).ownBlock with
    | none => exact .inl rfl
    | some q => exact .inr (fun e => by have:=hob q hv;simp at e;omega)
   ·have hBw : Below w.heap.size w W2:=HBW.out.trans (HBL.out.mono (by omega))
    have hg:=(hBw.setCell (p:=⟨w.heap.size,0,none⟩) (Nat.le_refl _) (.slice A2 fl.length cap2))
    refine ⟨hBw.os,hBw.tape,hBw.output,by simp;exact hsz,fun k hk hn _ => ?_,fun k hk => .inl hk,fun k hk => ?_,fun _ h => h⟩
    ·rw [hg4.block k (by simp;omega) (fun e => by cases e;omega),Below.heap_setCell W2 _ _ k (fun e => hn (by rw [e];exact (HE.out.st s HS0.out).ob))]
     exact hBw.block k hk
    ·rcases hk with h | h | h
     ·exact .inl h
     ·exact .inr (.inr (by omega))
     ·exact .inr (.inr (by have:=hob _ h;omega))
 ·obtain ⟨A,cap,rfl⟩:=hrow.form
  have f0 : w.cell? ⟨fb,0,none⟩ = some (.slice A fl.length cap):=hblk.cell 0
  have f1 : w.cell? ⟨fb,1,none⟩ = some (.bool d):=hblk.cell 1
  have hfl : fb < w.heap.size:=he.lt _ hfb
  unfold ptrV at d2
  have HOW:=hid hrow.own
  have HFR:=hid hfr
  clear he hst hm hs hblk hrow hfr
  go_enter Tryz.func190,Tryz.ntmps190
  go_wp2_with fail
  refine bodyPost_ret (v:=.agg #[.slice A fl.length cap,.bool d]) (by simp [results,Tryz.results190,go_sem]) rfl ⟨A,cap,fl,d,Own,rfl,HFR.out,HOW.out.alloc _,HE.out.alloc _,Gr.of_below ((Below.refl _ _).alloc (Nat.le_refl _) _)⟩
def StepEnd (p : List St) (a km : Nat) (pv : Value) (Own : Nat → Prop) (Ss : List ASt) (L : List (ByteArray × Value)) (b0 : Bool) (s : ASt) (w : World) (e : Ending) (w' : World) : Prop :=
 ∃ (fl : List Nat) (d : Bool),e = .returned (.tuple #[.bool d,.pointer none]) ∧ Front p b0 true s.fs fl d ∧ AEnv p a km pv Own Ss L w' ∧ Gr none Own Own Ss Ss w w'
def StepNext (p : List St) (a km : Nat) (pv : Value) (Own : Nat → Prop) (Ss : List ASt) (b0 : Bool) (c : Nat) (s : ASt) (w : World) (e : Ending) (w' : World) : Prop :=
 ∃ (Own' : Nat → Prop) (Ss' : List ASt) (L' : List (ByteArray × Value)) (t : ASt) (fl : List Nat) (d : Bool),e = .returned (.tuple #[.bool d,.pointer (some ⟨t.b,0,none⟩)]) ∧ Front p b0 false s.fs fl d ∧ t ∈ Ss' ∧ Tidy (goL p c fl) t.fs ∧ AEnv p a km pv Own' Ss' L' w' ∧ Gr none Own Own' Ss Ss' w w'
def AutoAt (p : List St) (a km : Nat) (pv : Value) (Own : Nat → Prop) (Ss : List ASt) (W2 w' : World) : Prop :=
 ∃ (Own2 : Nat → Prop) (Ss2 : List ASt) (L2 : List (ByteArray × Value)),AEnv p a km pv Own2 Ss2 L2 w' ∧ Gr none Own Own2 Ss Ss2 W2 w'
theorem AutoAt.auto {p : List St} {a km : Nat} {pv : Value} {Own : Nat → Prop} {Ss : List ASt} {W2 w' : World} (h : AutoAt p a km pv Own Ss W2 w') : w'.cell? ⟨a,0,none⟩ = some pv:=by
 obtain ⟨_,_,_,h1,_⟩:=h
 exact h1.ba.cell 0
theorem AutoAt.blk {p : List St} {a km : Nat} {pv : Value} {Own : Nat → Prop} {Ss : List ASt} {W2 w' : World} (h : AutoAt p a km pv Own Ss W2 w') {k : Nat} {t : TypeId} {cs : Array Value} (hb : Blk W2 k t cs) (hn : ¬ Own k) : Blk w' k t cs:=by
 obtain ⟨_,_,_,_,h2⟩:=h
 exact (h2.kept k hb.lt hn (by simp)).trans hb
theorem goL_lt {p : List St} (hp : okP p) (c : Nat) (L : List Nat) : ∀ j ∈ goL p c L,j < p.length:=by
 intro j hj
 unfold goL at hj
 rw [List.mem_flatMap] at hj
 obtain ⟨k,hk,hx⟩:=hj
 cases hs : p[k]? with
 | none => rw [hs] at hx;simp at hx
 | some st =>
   rw [hs] at hx
   simp only at hx
   split at hx
   ·rename_i hh
    obtain rfl : j = st.x.toNat:=by simpa using hx
    have h1:=oneP_zero (hp.2.2 st (List.mem_of_getElem? hs))
    by_cases h5 : st.op = 5
    ·rw [h1.2.2.2.2.2 h5];have:=hp.1;simpa using this
    ·have:=h1.2.1 h5;omega
   ·cases hx
theorem front_next {p : List St} {fs L : List Nat} {d : Bool} {c : Nat} {ts : List Nat} (h : Front p false false fs L d) (hn : NextIs p fs c ts) : Tidy (goL p c L) ts:=by
 obtain ⟨L',d',hf,ht⟩:=hn
 have hm : ∀ x,x ∈ L' ↔ x ∈ L:=fun x => by rw [hf.takes,h.takes]
 refine Tidy.trans (fun j => ?_) ht
 unfold goL
 simp only [List.mem_flatMap]
 constructor
 ·rintro ⟨k,hk,hx⟩;exact ⟨k,(hm k).1 hk,hx⟩
 ·rintro ⟨k,hk,hx⟩;exact ⟨k,(hm k).2 hk,hx⟩
section
variable (p : List St) (hp : okP p) (a km : Nat) (pv : Value) (Own : Nat → Prop) (Ss : List ASt) (L : List (ByteArray × Value)) (s : ASt) (hs : s ∈ Ss) (w : World) (he : AEnv p a km pv Own Ss L w)
include hp hs he
theorem step_end (tx : ByteArray) (hx : tx.size ≤ 400) (b0 : Bool) (hb0 : ((tx.size : Int) == 0) = b0) :
 Calls Tryz.prog 165 #[.pointer (some ⟨a,0,none⟩),.pointer (some ⟨s.b,0,none⟩),.string tx,.int .i64 (tx.size : Int)] w (StepEnd p a km pv Own Ss L b0 s w):=by
 have HE:=hid he
 have HP:=hid hp
 have hst:=he.st s hs
 obtain ⟨fv,fr,N,hm⟩:=hst.mem
 have c0 : w.cell? ⟨a,0,none⟩ = some pv:=he.ba.cell 0
 have d0 : w.cell? ⟨s.b,0,none⟩ = some fv:=hm.blk.cell 0
 have HROW:=hid hm.row
 have HMB:=hid hm.blk
 have HS0:=hid hs
 have HLT:=hid hst.lt
 clear he hst hm hs hp
 have hb1 : ((tx.size : Int) == (tx.size : Int)) = true:=by simp
 cases b0
 ·have hS : ∀ w',Below w.heap.size w w' → (w'.cell? ⟨a,0,none⟩ = some pv ∧ w'.cell? ⟨s.b,0,none⟩ = some fv ∧ Below w.heap.size w w'):=fun w' hb => by
   have hk:=HE.out.below hb
   exact ⟨hk.ba.cell 0,(HMB.out.kept hb).cell 0,hb⟩
  have HS:=hid hS
  have HSP : Hid (∀ w',Below w.heap.size w w' → Calls Tryz.prog 188 #[pv,fv,.bool false,.bool true] w' (SpreadIs p false true s.fs w')):=hid (fun w' hb => by
   have hk:=HE.out.below hb
   exact Spread_any p HP.out pv fv s.fs HLT.out false true w' hk.rds (Rd.of_own (own_below HROW.out.own hb)))
  have B0 : Below w.heap.size w w.drew:=(Below.refl _ _).drew
  have B1 : Below w.heap.size w (w.alloc (.cells #[.slice none 0 0,.bool false] 295)).drew:=((Below.refl _ _).alloc (Nat.le_refl _) _).drew
  have HN1:=hid (Blk.new w 295 #[.slice none 0 0,.bool false])
  clear hS
  go_enter Tryz.func165,Tryz.ntmps165
  go_wp2_with fail
  go_region_held3 (fun w' => w'.cell? ⟨a,0,none⟩ = some pv ∧ w'.cell? ⟨s.b,0,none⟩ = some fv ∧ Below w.heap.size w w')
   (exact HS.out _ (by first | assumption | exact Below.alloc (by assumption) (by assumption : Below w.heap.size w _).size _ | exact ((by assumption : Below w.heap.size w _).setCell (Nat.le_refl _) _).setCell (Nat.le_refl _) _))
   (first
     | (go_at_call 188;(with_reducible refine (HSP.out ((w.alloc (.cells #[.slice none 0 0,.bool false] 295)).drew) B1).mono ?_);rintro e w2 ⟨A2,cap2,fl,d,rfl,hfr,hown2,hb2⟩;have hk2:=HN1.out.drew.kept hb2;have k0 : w2.cell? ⟨w.heap.size,0,none⟩ = some (.slice none 0 0):=hk2.cell 0;have k1 : w2.cell? ⟨w.heap.size,1,none⟩ = some (.bool false):=hk2.cell 1;have y0 : w2.frozen? ⟨w.heap.size,0,none⟩ = false:=hk2.frozen 0;have y1 : w2.frozen? ⟨w.heap.size,1,none⟩ = false:=hk2.frozen 1;have hB2 : Below w.heap.size w w2:=B1.trans (hb2.mono B1.size))
     | (go_at_call 188;(with_reducible refine (HSP.out w.drew B0).mono ?_);rintro e w2 ⟨A2,cap2,fl,d,rfl,hfr,hown2,hb2⟩;have hB2 : Below w.heap.size w w2:=B0.trans (hb2.mono B0.size)))
  ·have HBL:=hid (hB2.alloc hB2.size (.cells #[.slice A2 fl.length cap2,.bool d] 295))
   obtain ⟨W2,hW2⟩ : ∃ W2,W2 = w2.alloc (.cells #[.slice A2 fl.length cap2,.bool d] 295):=⟨_,rfl⟩
   rw [← hW2] at HBL ⊢
   have HK2 : Hid (Blk W2 w2.heap.size 295 #[.slice A2 fl.length cap2,.bool d]):=hid (by rw [hW2];exact Blk.new w2 295 #[.slice A2 fl.length cap2,.bool d])
   have HO2 : Hid (W2.ownsRow 0 3 1 (.slice A2 fl.length cap2) fl.length (natVals fl)):=hid (by rw [hW2];exact (own_base hown2 (Nat.zero_le _)).alloc _)
   have hfbs : w.heap.size ≤ w2.heap.size:=by exact hB2.size
   have HFR:=hid hfr
   clear hW2 hB2 hb2 hown2 hfr 
   have HE2:=hid (HE.out.below HBL.out)
   have x0 : W2.cell? ⟨a,0,none⟩ = some pv:=HE2.out.ba.cell 0
   have x8 : W2.cell? ⟨w2.heap.size,0,none⟩ = some (.slice A2 fl.length cap2):=HK2.out.cell 0
   have x9 : W2.cell? ⟨w2.heap.size,1,none⟩ = some (.bool d):=HK2.out.cell 1
   generalize w2.heap.size = fb at HK2 x8 x9 hfbs ⊢
   go_wp2_with fail
   go_ret2
   exact ⟨fl,d,rfl,HFR.out,HE2.out,Gr.of_below HBL.out⟩
  ·have HBL:=hid ((hB2.setCell (p:=⟨w.heap.size,0,none⟩) (Nat.le_refl _) (.slice A2 fl.length cap2)).setCell (p:=⟨w.heap.size,1,none⟩) (Nat.le_refl _) (.bool d))
   obtain ⟨W2,hW2⟩ : ∃ W2,W2 = (w2.setCell ⟨w.heap.size,0,none⟩ (.slice A2 fl.length cap2)).setCell ⟨w.heap.size,1,none⟩ (.bool d):=⟨_,rfl⟩
   rw [← hW2] at HBL ⊢
   have HK2 : Hid (Blk W2 w.heap.size 295 #[.slice A2 fl.length cap2,.bool d]):=hid (by rw [hW2];exact (hk2.set_ 0 (.slice A2 fl.length cap2)).set_ 1 (.bool d))
   have HO2 : Hid (W2.ownsRow 0 3 1 (.slice A2 fl.length cap2) fl.length (natVals fl)):=hid (by 
    rw [hW2]
    refine own_fm (Own:=fun k => (Value.slice A2 fl.length cap2).ownBlock = some k) (row:=some w.heap.size) (own_base hown2 (Nat.zero_le _)) (fun g hg => hg) (fun k hk hn => ?_) (fun g cs fr e hh => ?_)
    ·rw [Below.heap_setCell _ _ _ k (fun e => hn (by rw [e])),Below.heap_setCell _ _ _ k (fun e => hn (by rw [e]))]
    ·cases e
     have:=hk2
     unfold Blk at this
     rw [this] at hh
     simp at hh)
   have hfbs : w.heap.size ≤ w.heap.size:=by exact Nat.le_refl _
   have HFR:=hid hfr
   clear hW2 hB2 hb2 hown2 hfr hk2 k0 k1 y0 y1
   have HE2:=hid (HE.out.below HBL.out)
   have x0 : W2.cell? ⟨a,0,none⟩ = some pv:=HE2.out.ba.cell 0
   have x8 : W2.cell? ⟨w.heap.size,0,none⟩ = some (.slice A2 fl.length cap2):=HK2.out.cell 0
   have x9 : W2.cell? ⟨w.heap.size,1,none⟩ = some (.bool d):=HK2.out.cell 1
   obtain ⟨fb,hfb⟩ : ∃ fb,fb = w.heap.size:=⟨_,rfl⟩
   rw [← hfb] at HK2 x8 x9 ⊢
   clear hfbs
   have hfbs : w.heap.size ≤ fb:=by rw [hfb];exact Nat.le_refl _
   clear hfb
   go_wp2_with fail
   go_ret2
   exact ⟨fl,d,rfl,HFR.out,HE2.out,Gr.of_below HBL.out⟩
 ·have hS : ∀ w',Below w.heap.size w w' → (w'.cell? ⟨a,0,none⟩ = some pv ∧ w'.cell? ⟨s.b,0,none⟩ = some fv ∧ Below w.heap.size w w'):=fun w' hb => by
   have hk:=HE.out.below hb
   exact ⟨hk.ba.cell 0,(HMB.out.kept hb).cell 0,hb⟩
  have HS:=hid hS
  have HSP : Hid (∀ w',Below w.heap.size w w' → Calls Tryz.prog 188 #[pv,fv,.bool true,.bool true] w' (SpreadIs p true true s.fs w')):=hid (fun w' hb => by
   have hk:=HE.out.below hb
   exact Spread_any p HP.out pv fv s.fs HLT.out true true w' hk.rds (Rd.of_own (own_below HROW.out.own hb)))
  have B0 : Below w.heap.size w w.drew:=(Below.refl _ _).drew
  have B1 : Below w.heap.size w (w.alloc (.cells #[.slice none 0 0,.bool false] 295)).drew:=((Below.refl _ _).alloc (Nat.le_refl _) _).drew
  have HN1:=hid (Blk.new w 295 #[.slice none 0 0,.bool false])
  clear hS
  go_enter Tryz.func165,Tryz.ntmps165
  go_wp2_with fail
  go_region_held3 (fun w' => w'.cell? ⟨a,0,none⟩ = some pv ∧ w'.cell? ⟨s.b,0,none⟩ = some fv ∧ Below w.heap.size w w')
   (exact HS.out _ (by first | assumption | exact Below.alloc (by assumption) (by assumption : Below w.heap.size w _).size _ | exact ((by assumption : Below w.heap.size w _).setCell (Nat.le_refl _) _).setCell (Nat.le_refl _) _))
   (first
     | (go_at_call 188;(with_reducible refine (HSP.out ((w.alloc (.cells #[.slice none 0 0,.bool false] 295)).drew) B1).mono ?_);rintro e w2 ⟨A2,cap2,fl,d,rfl,hfr,hown2,hb2⟩;have hk2:=HN1.out.drew.kept hb2;have k0 : w2.cell? ⟨w.heap.size,0,none⟩ = some (.slice none 0 0):=hk2.cell 0;have k1 : w2.cell? ⟨w.heap.size,1,none⟩ = some (.bool false):=hk2.cell 1;have y0 : w2.frozen? ⟨w.heap.size,0,none⟩ = false:=hk2.frozen 0;have y1 : w2.frozen? ⟨w.heap.size,1,none⟩ = false:=hk2.frozen 1;have hB2 : Below w.heap.size w w2:=B1.trans (hb2.mono B1.size))
     | (go_at_call 188;(with_reducible refine (HSP.out w.drew B0).mono ?_);rintro e w2 ⟨A2,cap2,fl,d,rfl,hfr,hown2,hb2⟩;have hB2 : Below w.heap.size w w2:=B0.trans (hb2.mono B0.size)))
  ·have HBL:=hid (hB2.alloc hB2.size (.cells #[.slice A2 fl.length cap2,.bool d] 295))
   obtain ⟨W2,hW2⟩ : ∃ W2,W2 = w2.alloc (.cells #[.slice A2 fl.length cap2,.bool d] 295):=⟨_,rfl⟩
   rw [← hW2] at HBL ⊢
   have HK2 : Hid (Blk W2 w2.heap.size 295 #[.slice A2 fl.length cap2,.bool d]):=hid (by rw [hW2];exact Blk.new w2 295 #[.slice A2 fl.length cap2,.bool d])
   have HO2 : Hid (W2.ownsRow 0 3 1 (.slice A2 fl.length cap2) fl.length (natVals fl)):=hid (by rw [hW2];exact (own_base hown2 (Nat.zero_le _)).alloc _)
   have hfbs : w.heap.size ≤ w2.heap.size:=by exact hB2.size
   have HFR:=hid hfr
   clear hW2 hB2 hb2 hown2 hfr 
   have HE2:=hid (HE.out.below HBL.out)
   have x0 : W2.cell? ⟨a,0,none⟩ = some pv:=HE2.out.ba.cell 0
   have x8 : W2.cell? ⟨w2.heap.size,0,none⟩ = some (.slice A2 fl.length cap2):=HK2.out.cell 0
   have x9 : W2.cell? ⟨w2.heap.size,1,none⟩ = some (.bool d):=HK2.out.cell 1
   generalize w2.heap.size = fb at HK2 x8 x9 hfbs ⊢
   go_wp2_with fail
   go_ret2
   exact ⟨fl,d,rfl,HFR.out,HE2.out,Gr.of_below HBL.out⟩
  ·have HBL:=hid ((hB2.setCell (p:=⟨w.heap.size,0,none⟩) (Nat.le_refl _) (.slice A2 fl.length cap2)).setCell (p:=⟨w.heap.size,1,none⟩) (Nat.le_refl _) (.bool d))
   obtain ⟨W2,hW2⟩ : ∃ W2,W2 = (w2.setCell ⟨w.heap.size,0,none⟩ (.slice A2 fl.length cap2)).setCell ⟨w.heap.size,1,none⟩ (.bool d):=⟨_,rfl⟩
   rw [← hW2] at HBL ⊢
   have HK2 : Hid (Blk W2 w.heap.size 295 #[.slice A2 fl.length cap2,.bool d]):=hid (by rw [hW2];exact (hk2.set_ 0 (.slice A2 fl.length cap2)).set_ 1 (.bool d))
   have HO2 : Hid (W2.ownsRow 0 3 1 (.slice A2 fl.length cap2) fl.length (natVals fl)):=hid (by 
    rw [hW2]
    refine own_fm (Own:=fun k => (Value.slice A2 fl.length cap2).ownBlock = some k) (row:=some w.heap.size) (own_base hown2 (Nat.zero_le _)) (fun g hg => hg) (fun k hk hn => ?_) (fun g cs fr e hh => ?_)
    ·rw [Below.heap_setCell _ _ _ k (fun e => hn (by rw [e])),Below.heap_setCell _ _ _ k (fun e => hn (by rw [e]))]
    ·cases e
     have:=hk2
     unfold Blk at this
     rw [this] at hh
     simp at hh)
   have hfbs : w.heap.size ≤ w.heap.size:=by exact Nat.le_refl _
   have HFR:=hid hfr
   clear hW2 hB2 hb2 hown2 hfr hk2 k0 k1 y0 y1
   have HE2:=hid (HE.out.below HBL.out)
   have x0 : W2.cell? ⟨a,0,none⟩ = some pv:=HE2.out.ba.cell 0
   have x8 : W2.cell? ⟨w.heap.size,0,none⟩ = some (.slice A2 fl.length cap2):=HK2.out.cell 0
   have x9 : W2.cell? ⟨w.heap.size,1,none⟩ = some (.bool d):=HK2.out.cell 1
   obtain ⟨fb,hfb⟩ : ∃ fb,fb = w.heap.size:=⟨_,rfl⟩
   rw [← hfb] at HK2 x8 x9 ⊢
   clear hfbs
   have hfbs : w.heap.size ≤ fb:=by rw [hfb];exact Nat.le_refl _
   clear hfb
   go_wp2_with fail
   go_ret2
   exact ⟨fl,d,rfl,HFR.out,HE2.out,Gr.of_below HBL.out⟩
theorem step_zero (hok : ∀ st ∈ p,okC st.cls) (tx : ByteArray) (hx : tx.size ≤ 400) (i : Nat) (hi : i < tx.size) (hb0 : ((i : Int) == 0) = true) (hb1 : ((i : Int) == (tx.size : Int)) = false) :
 Calls Tryz.prog 165 #[.pointer (some ⟨a,0,none⟩),.pointer (some ⟨s.b,0,none⟩),.string tx,.int .i64 (i : Int)] w (StepNext p a km pv Own Ss true tx[i].toNat s w):=by
 have HE:=hid he
 have HP:=hid hp
 have hst:=he.st s hs
 obtain ⟨fv,fr,N,hm⟩:=hst.mem
 have c0 : w.cell? ⟨a,0,none⟩ = some pv:=he.ba.cell 0
 have d0 : w.cell? ⟨s.b,0,none⟩ = some fv:=hm.blk.cell 0
 have HROW:=hid hm.row
 have HMB:=hid hm.blk
 have HS0:=hid hs
 have HLT:=hid hst.lt
 clear he hst hm hs hp
 have HOK:=hid hok
 have hi1 : (i : Int) < (tx.size : Int):=by omega
 have hi0 : (0 : Int) ≤ (i : Int):=by omega
 have hbyte : tx[i].toNat < 256:=tx[i].toNat_lt
 clear hok
 have hS : ∀ w',Below w.heap.size w w' → (w'.cell? ⟨a,0,none⟩ = some pv ∧ w'.cell? ⟨s.b,0,none⟩ = some fv ∧ Below w.heap.size w w'):=fun w' hb => by
  have hk:=HE.out.below hb
  exact ⟨hk.ba.cell 0,(HMB.out.kept hb).cell 0,hb⟩
 have HS:=hid hS
 have HSP : Hid (∀ w',Below w.heap.size w w' → Calls Tryz.prog 188 #[pv,fv,.bool true,.bool false] w' (SpreadIs p true false s.fs w')):=hid (fun w' hb => by
  have hk:=HE.out.below hb
  exact Spread_any p HP.out pv fv s.fs HLT.out true false w' hk.rds (Rd.of_own (own_below HROW.out.own hb)))
 have B0 : Below w.heap.size w w.drew:=(Below.refl _ _).drew
 have B1 : Below w.heap.size w (w.alloc (.cells #[.slice none 0 0,.bool false] 295)).drew:=((Below.refl _ _).alloc (Nat.le_refl _) _).drew
 have HN1:=hid (Blk.new w 295 #[.slice none 0 0,.bool false])
 clear hS
 go_enter Tryz.func165,Tryz.ntmps165
 go_wp2_with fail
 go_region_held3 (fun w' => w'.cell? ⟨a,0,none⟩ = some pv ∧ w'.cell? ⟨s.b,0,none⟩ = some fv ∧ Below w.heap.size w w')
  (exact HS.out _ (by first | assumption | exact Below.alloc (by assumption) (by assumption : Below w.heap.size w _).size _ | exact ((by assumption : Below w.heap.size w _).setCell (Nat.le_refl _) _).setCell (Nat.le_refl _) _))
  (first
    | (go_at_call 188;(with_reducible refine (HSP.out ((w.alloc (.cells #[.slice none 0 0,.bool false] 295)).drew) B1).mono ?_);rintro e w2 ⟨A2,cap2,fl,d,rfl,hfr,hown2,hb2⟩;have hk2:=HN1.out.drew.kept hb2;have k0 : w2.cell? ⟨w.heap.size,0,none⟩ = some (.slice none 0 0):=hk2.cell 0;have k1 : w2.cell? ⟨w.heap.size,1,none⟩ = some (.bool false):=hk2.cell 1;have y0 : w2.frozen? ⟨w.heap.size,0,none⟩ = false:=hk2.frozen 0;have y1 : w2.frozen? ⟨w.heap.size,1,none⟩ = false:=hk2.frozen 1;have hB2 : Below w.heap.size w w2:=B1.trans (hb2.mono B1.size))
    | (go_at_call 188;(with_reducible refine (HSP.out w.drew B0).mono ?_);rintro e w2 ⟨A2,cap2,fl,d,rfl,hfr,hown2,hb2⟩;have hB2 : Below w.heap.size w w2:=B0.trans (hb2.mono B0.size)))
 ·have HBL:=hid (hB2.alloc hB2.size (.cells #[.slice A2 fl.length cap2,.bool d] 295))
  obtain ⟨W2,hW2⟩ : ∃ W2,W2 = w2.alloc (.cells #[.slice A2 fl.length cap2,.bool d] 295):=⟨_,rfl⟩
  rw [← hW2] at HBL ⊢
  have HK2 : Hid (Blk W2 w2.heap.size 295 #[.slice A2 fl.length cap2,.bool d]):=hid (by rw [hW2];exact Blk.new w2 295 #[.slice A2 fl.length cap2,.bool d])
  have HO2 : Hid (W2.ownsRow 0 3 1 (.slice A2 fl.length cap2) fl.length (natVals fl)):=hid (by rw [hW2];exact (own_base hown2 (Nat.zero_le _)).alloc _)
  have hfbs : w.heap.size ≤ w2.heap.size:=by exact hB2.size
  have HFR:=hid hfr
  clear hW2 hB2 hb2 hown2 hfr 
  have HE2:=hid (HE.out.below HBL.out)
  have x0 : W2.cell? ⟨a,0,none⟩ = some pv:=HE2.out.ba.cell 0
  have x8 : W2.cell? ⟨w2.heap.size,0,none⟩ = some (.slice A2 fl.length cap2):=HK2.out.cell 0
  have x9 : W2.cell? ⟨w2.heap.size,1,none⟩ = some (.bool d):=HK2.out.cell 1
  generalize w2.heap.size = fb at HK2 x8 x9 hfbs ⊢
  have HNF : Hid (¬ Own fb):=hid (fun h => by have:=HE.out.lt fb h;omega)
  have HLL:=hid (front_lt HP.out HFR.out)
  have hS2 : ∀ w',Hid (AutoAt p a km pv Own Ss W2 w') → (w'.cell? ⟨fb,0,none⟩ = some (.slice A2 fl.length cap2) ∧ w'.cell? ⟨fb,1,none⟩ = some (.bool d) ∧ w'.cell? ⟨a,0,none⟩ = some pv ∧ Hid (AutoAt p a km pv Own Ss W2 w')):=fun w' h => by
   have hk:=h.out.blk HK2.out HNF.out
   exact ⟨hk.cell 0,hk.cell 1,h.out.auto,h⟩
  have HS2:=hid hS2
  have HGO : Hid (∀ w',Below W2.heap.size W2 w' → Calls Tryz.prog 189 #[.agg #[.slice A2 fl.length cap2,.bool d],pv,.int .u8 (tx[i].toNat : Int)] w' (GoIs p tx[i].toNat fl w')):=hid (fun w' h =>
   Go_any p HOK.out (fun st hst => op_x0 HP.out st hst) pv A2 cap2 fl d HLL.out.2 HLL.out.1 _ hbyte w' (HE2.out.below h).rds (Rd.of_own (own_below HO2.out h)))
  have HOF : Hid (∀ w' A3 cap3,Below W2.heap.size W2 w' → w'.ownsRow (W2.heap.size) 3 1 (.slice A3 (goL p tx[i].toNat fl).length cap3) (goL p tx[i].toNat fl).length (natVals (goL p tx[i].toNat fl)) → Calls Tryz.prog 164 #[.pointer (some ⟨a,0,none⟩),.slice A3 (goL p tx[i].toNat fl).length cap3] w' (AOfIs p a km pv Own Ss (Value.slice A3 (goL p tx[i].toNat fl).length cap3).ownBlock (goL p tx[i].toNat fl) w')):=hid (fun w' A3 cap3 h ho =>
   of_c p HP.out.2.1 a km pv Own Ss L _ _ w' (HE2.out.below h) (own_base ho (Nat.zero_le _)) (fun g hg hO => by have:=(ho.lt g hg).1;have:=HE2.out.lt g hO;omega) (goL_lt HP.out _ _) (by have:=goL_len p tx[i].toNat fl;have:=HLL.out.1;omega))
  have C0 : Below W2.heap.size W2 W2.drew:=(Below.refl _ _).drew
  have HA0 : Hid (AutoAt p a km pv Own Ss W2 W2.drew):=hid ⟨Own,Ss,L,HE2.out.below C0,Gr.of_below C0⟩
  clear hS2
  go_wp2_with fail
  go_region_held3 (fun w' => w'.cell? ⟨fb,0,none⟩ = some (.slice A2 fl.length cap2) ∧ w'.cell? ⟨fb,1,none⟩ = some (.bool d) ∧ w'.cell? ⟨a,0,none⟩ = some pv ∧ Hid (AutoAt p a km pv Own Ss W2 w'))
   (exact HS2.out _ (by assumption))
   (first
     | (go_at_call 189;refine (HGO.out _ C0).mono ?_;rintro e w3 ⟨A3,cap3,rfl,hown3,hb3⟩;have hB3 : Below W2.heap.size W2 w3:=C0.trans (hb3.mono C0.size);have HA3 : Hid (AutoAt p a km pv Own Ss W2 w3):=hid ⟨Own,Ss,L,HE2.out.below hB3,Gr.of_below hB3⟩;have HB3:=hid hB3;have HO3:=hid (own_base hown3 (show W2.heap.size ≤ _ by simp));clear hown3 hb3 hB3)
     | (go_at_call 164;refine (HOF.out w3 A3 cap3 HB3.out HO3.out).mono ?_;rintro e w4 ⟨Own4,Ss4,L4,t,rfl,ht,htd,he4,hg4⟩;have hg5:=(Gr.of_below HB3.out).trans hg4 (fun g hg => .inr (HO3.out.lt g hg).1);have HA4 : Hid (AutoAt p a km pv Own Ss W2 w4):=hid ⟨Own4,Ss4,L4,he4,hg5⟩;have HE4:=hid he4;have HG4:=hid hg5;have HT:=hid ht;have HTD:=hid htd;clear he4 hg4 hg5 ht htd))
  go_wp2_with fail
  go_ret2
  exact ⟨Own4,Ss4,L4,t,fl,d,rfl,HFR.out,HT.out,HTD.out,HE4.out,(Gr.of_below HBL.out).trans HG4.out (by simp)⟩
 ·have HBL:=hid ((hB2.setCell (p:=⟨w.heap.size,0,none⟩) (Nat.le_refl _) (.slice A2 fl.length cap2)).setCell (p:=⟨w.heap.size,1,none⟩) (Nat.le_refl _) (.bool d))
  obtain ⟨W2,hW2⟩ : ∃ W2,W2 = (w2.setCell ⟨w.heap.size,0,none⟩ (.slice A2 fl.length cap2)).setCell ⟨w.heap.size,1,none⟩ (.bool d):=⟨_,rfl⟩
  rw [← hW2] at HBL ⊢
  have HK2 : Hid (Blk W2 w.heap.size 295 #[.slice A2 fl.length cap2,.bool d]):=hid (by rw [hW2];exact (hk2.set_ 0 (.slice A2 fl.length cap2)).set_ 1 (.bool d))
  have HO2 : Hid (W2.ownsRow 0 3 1 (.slice A2 fl.length cap2) fl.length (natVals fl)):=hid (by 
   rw [hW2]
   refine own_fm (Own:=fun k => (Value.slice A2 fl.length cap2).ownBlock = some k) (row:=some w.heap.size) (own_base hown2 (Nat.zero_le _)) (fun g hg => hg) (fun k hk hn => ?_) (fun g cs fr e hh => ?_)
   ·rw [Below.heap_setCell _ _ _ k (fun e => hn (by rw [e])),Below.heap_setCell _ _ _ k (fun e => hn (by rw [e]))]
   ·cases e
    have:=hk2
    unfold Blk at this
    rw [this] at hh
    simp at hh)
  have hfbs : w.heap.size ≤ w.heap.size:=by exact Nat.le_refl _
  have HFR:=hid hfr
  clear hW2 hB2 hb2 hown2 hfr hk2 k0 k1 y0 y1
  have HE2:=hid (HE.out.below HBL.out)
  have x0 : W2.cell? ⟨a,0,none⟩ = some pv:=HE2.out.ba.cell 0
  have x8 : W2.cell? ⟨w.heap.size,0,none⟩ = some (.slice A2 fl.length cap2):=HK2.out.cell 0
  have x9 : W2.cell? ⟨w.heap.size,1,none⟩ = some (.bool d):=HK2.out.cell 1
  obtain ⟨fb,hfb⟩ : ∃ fb,fb = w.heap.size:=⟨_,rfl⟩
  rw [← hfb] at HK2 x8 x9 ⊢
  clear hfbs
  have hfbs : w.heap.size ≤ fb:=by rw [hfb];exact Nat.le_refl _
  clear hfb
  have HNF : Hid (¬ Own fb):=hid (fun h => by have:=HE.out.lt fb h;omega)
  have HLL:=hid (front_lt HP.out HFR.out)
  have hS2 : ∀ w',Hid (AutoAt p a km pv Own Ss W2 w') → (w'.cell? ⟨fb,0,none⟩ = some (.slice A2 fl.length cap2) ∧ w'.cell? ⟨fb,1,none⟩ = some (.bool d) ∧ w'.cell? ⟨a,0,none⟩ = some pv ∧ Hid (AutoAt p a km pv Own Ss W2 w')):=fun w' h => by
   have hk:=h.out.blk HK2.out HNF.out
   exact ⟨hk.cell 0,hk.cell 1,h.out.auto,h⟩
  have HS2:=hid hS2
  have HGO : Hid (∀ w',Below W2.heap.size W2 w' → Calls Tryz.prog 189 #[.agg #[.slice A2 fl.length cap2,.bool d],pv,.int .u8 (tx[i].toNat : Int)] w' (GoIs p tx[i].toNat fl w')):=hid (fun w' h =>
   Go_any p HOK.out (fun st hst => op_x0 HP.out st hst) pv A2 cap2 fl d HLL.out.2 HLL.out.1 _ hbyte w' (HE2.out.below h).rds (Rd.of_own (own_below HO2.out h)))
  have HOF : Hid (∀ w' A3 cap3,Below W2.heap.size W2 w' → w'.ownsRow (W2.heap.size) 3 1 (.slice A3 (goL p tx[i].toNat fl).length cap3) (goL p tx[i].toNat fl).length (natVals (goL p tx[i].toNat fl)) → Calls Tryz.prog 164 #[.pointer (some ⟨a,0,none⟩),.slice A3 (goL p tx[i].toNat fl).length cap3] w' (AOfIs p a km pv Own Ss (Value.slice A3 (goL p tx[i].toNat fl).length cap3).ownBlock (goL p tx[i].toNat fl) w')):=hid (fun w' A3 cap3 h ho =>
   of_c p HP.out.2.1 a km pv Own Ss L _ _ w' (HE2.out.below h) (own_base ho (Nat.zero_le _)) (fun g hg hO => by have:=(ho.lt g hg).1;have:=HE2.out.lt g hO;omega) (goL_lt HP.out _ _) (by have:=goL_len p tx[i].toNat fl;have:=HLL.out.1;omega))
  have C0 : Below W2.heap.size W2 W2.drew:=(Below.refl _ _).drew
  have HA0 : Hid (AutoAt p a km pv Own Ss W2 W2.drew):=hid ⟨Own,Ss,L,HE2.out.below C0,Gr.of_below C0⟩
  clear hS2
  go_wp2_with fail
  go_region_held3 (fun w' => w'.cell? ⟨fb,0,none⟩ = some (.slice A2 fl.length cap2) ∧ w'.cell? ⟨fb,1,none⟩ = some (.bool d) ∧ w'.cell? ⟨a,0,none⟩ = some pv ∧ Hid (AutoAt p a km pv Own Ss W2 w'))
   (exact HS2.out _ (by assumption))
   (first
     | (go_at_call 189;refine (HGO.out _ C0).mono ?_;rintro e w3 ⟨A3,cap3,rfl,hown3,hb3⟩;have hB3 : Below W2.heap.size W2 w3:=C0.trans (hb3.mono C0.size);have HA3 : Hid (AutoAt p a km pv Own Ss W2 w3):=hid ⟨Own,Ss,L,HE2.out.below hB3,Gr.of_below hB3⟩;have HB3:=hid hB3;have HO3:=hid (own_base hown3 (show W2.heap.size ≤ _ by simp));clear hown3 hb3 hB3)
     | (go_at_call 164;refine (HOF.out w3 A3 cap3 HB3.out HO3.out).mono ?_;rintro e w4 ⟨Own4,Ss4,L4,t,rfl,ht,htd,he4,hg4⟩;have hg5:=(Gr.of_below HB3.out).trans hg4 (fun g hg => .inr (HO3.out.lt g hg).1);have HA4 : Hid (AutoAt p a km pv Own Ss W2 w4):=hid ⟨Own4,Ss4,L4,he4,hg5⟩;have HE4:=hid he4;have HG4:=hid hg5;have HT:=hid ht;have HTD:=hid htd;clear he4 hg4 hg5 ht htd))
  go_wp2_with fail
  go_ret2
  exact ⟨Own4,Ss4,L4,t,fl,d,rfl,HFR.out,HT.out,HTD.out,HE4.out,(Gr.of_below HBL.out).trans HG4.out (by simp)⟩
theorem step_mid (hok : ∀ st ∈ p,okC st.cls) (tx : ByteArray) (hx : tx.size ≤ 400) (i : Nat) (hi : i < tx.size) (hb0 : ((i : Int) == 0) = false) (hb1 : ((i : Int) == (tx.size : Int)) = false) :
 Calls Tryz.prog 165 #[.pointer (some ⟨a,0,none⟩),.pointer (some ⟨s.b,0,none⟩),.string tx,.int .i64 (i : Int)] w (StepNext p a km pv Own Ss false tx[i].toNat s w):=by
 have HE:=hid he
 have HP:=hid hp
 have HS0:=hid hs
 have HOK:=hid hok
 have hi1 : (i : Int) < (tx.size : Int):=by omega
 have hi0 : (0 : Int) ≤ (i : Int):=by omega
 have hbyte : tx[i].toNat < 256:=tx[i].toNat_lt
 clear he hp hs hok
 have HWI:=hid (within_c p HP.out a km pv Own Ss L s HS0.out w HE.out)
 go_enter Tryz.func165,Tryz.ntmps165
 go_wp2_with fail
 refine HWI.out.mono ?_
 rintro e w1 ⟨A2,cap2,fl,d,Own1,rfl,hfr,hown1,he1,hg1⟩
 have HFR:=hid hfr
 have hb1':=(Below.refl w1.heap.size w1).alloc (Nat.le_refl _) (.cells #[.slice A2 fl.length cap2,.bool d] 295)
 have HE2:=hid (he1.below hb1')
 have HK2:=hid (Blk.new w1 295 #[.slice A2 fl.length cap2,.bool d])
 have HO2:=hid (own_below hown1 hb1')
 have HG2:=hid (hg1.trans (Gr.of_below hb1') (by simp))
 have HNF : Hid (¬ Own1 w1.heap.size):=hid (fun h => by have:=he1.lt _ h;omega)
 clear hfr hown1 he1 hg1 hb1' HWI
 go_wp2_with fail
 obtain ⟨W2,hW2⟩ : ∃ W2,W2 = w1.alloc (.cells #[.slice A2 fl.length cap2,.bool d] 295):=⟨_,rfl⟩
 rw [← hW2] at HE2 HK2 HO2 HG2 ⊢
 clear hW2
 generalize w1.heap.size = fb at HK2 HNF ⊢
 have x9 : W2.cell? ⟨fb,1,none⟩ = some (.bool d):=HK2.out.cell 1
 have x0 : W2.cell? ⟨a,0,none⟩ = some pv:=HE2.out.ba.cell 0
 have x8 : W2.cell? ⟨fb,0,none⟩ = some (.slice A2 fl.length cap2):=HK2.out.cell 0
 obtain ⟨fv,fr,N,hm⟩:=(HE2.out.st s HS0.out).mem
 have d1 : W2.cell? ⟨s.b,1,none⟩ = some (.map (some s.m)):=hm.blk.cell 1
 have HMB:=hid hm.blk
 have hmp:=hm.map.below (Below.refl _ _).drew
 have HNX:=hid hm.nxt
 clear hm
 cases hk : getL N tx[i].toNat with
 | some u =>
   have hlk:=hmp.look_some u8_key Tryz.underlying271 hk true
   obtain ⟨t,ht,rfl,hnx⟩:=HNX.out _ _ hk
   unfold ptrV byteK at hlk
   simp only [if_true] at hlk
   have HT:=hid ht
   have HN:=hid (front_next HFR.out hnx)
   clear hk ht hnx hmp
   have hS : ∀ w',Hid (w' = W2.drew) → (w'.cell? ⟨s.b,1,none⟩ = some (.map (some s.m)) ∧ (Instr.lookup 271 (.map (some s.m)) (.int .u8 (tx[i].toNat : Int)) true).run Tryz.prog w' = .ok (.tuple #[.pointer (some ⟨t.b,0,none⟩),.bool true]) w' ∧ Hid (w' = W2.drew)):=fun w' h => by
    have e:=h.out
    subst e
    exact ⟨d1,hlk,h⟩
   have HS:=hid hS
   have HQ : Hid (W2.drew = W2.drew):=hid rfl
   clear hS hlk
   go_region_held3 (fun w' => w'.cell? ⟨s.b,1,none⟩ = some (.map (some s.m)) ∧ (Instr.lookup 271 (.map (some s.m)) (.int .u8 (tx[i].toNat : Int)) true).run Tryz.prog w' = .ok (.tuple #[.pointer (some ⟨t.b,0,none⟩),.bool true]) w' ∧ Hid (w' = W2.drew))
    (exact HS.out _ (by assumption))
    (fail)
   go_wp2_with fail
   go_ret2
   have hb : Below W2.heap.size W2 W2.drew:=(Below.refl _ _).drew
   exact ⟨Own1,Ss,L,t,fl,d,rfl,HFR.out,HT.out,HN.out,HE2.out.below hb,HG2.out.trans (Gr.of_below hb) (by simp)⟩
 | none =>
   have hlk:=hmp.look_none u8_key Tryz.underlying271 (zero_state _) hk true
   unfold byteK at hlk
   simp only [if_true] at hlk
   clear hk hmp
   have hS : ∀ w',Hid (w' = W2.drew) → (w'.cell? ⟨s.b,1,none⟩ = some (.map (some s.m)) ∧ (Instr.lookup 271 (.map (some s.m)) (.int .u8 (tx[i].toNat : Int)) true).run Tryz.prog w' = .ok (.tuple #[.pointer none,.bool false]) w' ∧ Hid (w' = W2.drew)):=fun w' h => by
    have e:=h.out
    subst e
    exact ⟨d1,hlk,h⟩
   have HS:=hid hS
   have HQ : Hid (W2.drew = W2.drew):=hid rfl
   clear hS hlk
   go_region_held3 (fun w' => w'.cell? ⟨s.b,1,none⟩ = some (.map (some s.m)) ∧ (Instr.lookup 271 (.map (some s.m)) (.int .u8 (tx[i].toNat : Int)) true).run Tryz.prog w' = .ok (.tuple #[.pointer none,.bool false]) w' ∧ Hid (w' = W2.drew))
    (exact HS.out _ (by assumption))
    (fail)
   clear HS HQ
   have hbd : Below W2.heap.size W2 W2.drew:=(Below.refl _ _).drew
   have HE3:=hid (HE2.out.below hbd)
   have HK3:=hid (HK2.out.kept hbd)
   have HO3:=hid (own_below HO2.out hbd)
   have HG3:=hid (HG2.out.trans (Gr.of_below hbd) (by simp))
   have HMB3:=hid (HMB.out.kept hbd)
   clear hbd HE2 HK2 HO2 HG2 HMB HNX d1 x0 x8 x9
   generalize W2.drew = W2 at *
   have x9 : W2.cell? ⟨fb,1,none⟩ = some (.bool d):=HK3.out.cell 1
   have x0 : W2.cell? ⟨a,0,none⟩ = some pv:=HE3.out.ba.cell 0
   have x8 : W2.cell? ⟨fb,0,none⟩ = some (.slice A2 fl.length cap2):=HK3.out.cell 0
   have HE2:=HE3
   have HK2:=HK3
   have HO2:=HO3
   have HLL:=hid (front_lt HP.out HFR.out)
   have hS2 : ∀ w',Hid (AutoAt p a km pv Own1 Ss W2 w') → (w'.cell? ⟨fb,0,none⟩ = some (.slice A2 fl.length cap2) ∧ w'.cell? ⟨fb,1,none⟩ = some (.bool d) ∧ w'.cell? ⟨a,0,none⟩ = some pv ∧ Hid (AutoAt p a km pv Own1 Ss W2 w')):=fun w' h => by
    have hk:=h.out.blk HK2.out HNF.out
    exact ⟨hk.cell 0,hk.cell 1,h.out.auto,h⟩
   have HS2:=hid hS2
   have HGO : Hid (∀ w',Below W2.heap.size W2 w' → Calls Tryz.prog 189 #[.agg #[.slice A2 fl.length cap2,.bool d],pv,.int .u8 (tx[i].toNat : Int)] w' (GoIs p tx[i].toNat fl w')):=hid (fun w' h =>
    Go_any p HOK.out (fun st hst => op_x0 HP.out st hst) pv A2 cap2 fl d HLL.out.2 HLL.out.1 _ hbyte w' (HE2.out.below h).rds (Rd.of_own (own_below HO2.out h)))
   have HOF : Hid (∀ w' A3 cap3,Below W2.heap.size W2 w' → w'.ownsRow (W2.heap.size) 3 1 (.slice A3 (goL p tx[i].toNat fl).length cap3) (goL p tx[i].toNat fl).length (natVals (goL p tx[i].toNat fl)) → Calls Tryz.prog 164 #[.pointer (some ⟨a,0,none⟩),.slice A3 (goL p tx[i].toNat fl).length cap3] w' (AOfIs p a km pv Own1 Ss (Value.slice A3 (goL p tx[i].toNat fl).length cap3).ownBlock (goL p tx[i].toNat fl) w')):=hid (fun w' A3 cap3 h ho =>
    of_c p HP.out.2.1 a km pv Own1 Ss L _ _ w' (HE2.out.below h) (own_base ho (Nat.zero_le _)) (fun g hg hO => by have:=(ho.lt g hg).1;have:=HE2.out.lt g hO;omega) (goL_lt HP.out _ _) (by have:=goL_len p tx[i].toNat fl;have:=HLL.out.1;omega))
   have C0 : Below W2.heap.size W2 W2.drew:=(Below.refl _ _).drew
   have HA0 : Hid (AutoAt p a km pv Own1 Ss W2 W2.drew):=hid ⟨Own1,Ss,L,HE2.out.below C0,Gr.of_below C0⟩
   clear hS2
   go_wp2_with fail
   go_region_held3 (fun w' => w'.cell? ⟨fb,0,none⟩ = some (.slice A2 fl.length cap2) ∧ w'.cell? ⟨fb,1,none⟩ = some (.bool d) ∧ w'.cell? ⟨a,0,none⟩ = some pv ∧ Hid (AutoAt p a km pv Own1 Ss W2 w'))
    (exact HS2.out _ (by assumption))
    (first
      | (go_at_call 189;refine (HGO.out _ C0).mono ?_;rintro e w3 ⟨A3,cap3,rfl,hown3,hb3⟩;have hB3 : Below W2.heap.size W2 w3:=C0.trans (hb3.mono C0.size);have HA3 : Hid (AutoAt p a km pv Own1 Ss W2 w3):=hid ⟨Own1,Ss,L,HE2.out.below hB3,Gr.of_below hB3⟩;have HB3:=hid hB3;have HO3:=hid (own_base hown3 (show W2.heap.size ≤ _ by simp));clear hown3 hb3 hB3)
      | (go_at_call 164;refine (HOF.out w3 A3 cap3 HB3.out HO3.out).mono ?_;rintro e w4 ⟨Own4,Ss4,L4,t,rfl,ht,htd,he4,hg4⟩;have hg5:=(Gr.of_below HB3.out).trans hg4 (fun g hg => .inr (HO3.out.lt g hg).1);have HA4 : Hid (AutoAt p a km pv Own1 Ss W2 w4):=hid ⟨Own4,Ss4,L4,he4,hg5⟩;have HE4:=hid he4;have HG4:=hid hg5;have HT:=hid ht;have HTD:=hid htd;clear he4 hg4 hg5 ht htd))
   have HK4:=hid (HA4.out.blk HK2.out HNF.out)
   have HNF4 : Hid (¬ Own4 fb):=hid (fun h => by
    rcases HG4.out.new fb h with h | h | h
    ·exact HNF.out h
    ·cases h
    ·have:=HK2.out.lt;omega)
   have HS4:=hid (HG4.out.ss s HS0.out)
   have hd4 : Below w4.heap.size w4 w4.drew:=(Below.refl _ _).drew
   have he5:=HE4.out.below hd4
   have hk5:=HK4.out.kept hd4
   obtain ⟨fv4,fr4,N4,hm4⟩:=(he5.st s HS4.out).mem
   obtain ⟨w6,hup,hmp6,hg6,hsz6⟩:=hm4.map.update u8_key Tryz.underlying271 tx[i].toNat (ptrV t.b)
   have he6:=he5.next_ HS4.out HT.out hm4 ⟨fl,d,HFR.out,HTD.out⟩ hg6 hmp6
   have hk6 : Blk w6 fb 295 #[.slice A2 fl.length cap2,.bool d]:=(hg6.block fb hk5.lt (fun e => HNF4.out (by cases e;exact (he5.st s HS4.out).om))).trans hk5
   have y9 : w6.cell? ⟨fb,1,none⟩ = some (.bool d):=hk6.cell 1
   have HG6:=hid ((HG3.out.trans (HG4.out.trans (Gr.of_below hd4) (by simp)) (by simp)).trans (Gr.of_owned hg6 (he5.st s HS4.out).om none) (by simp))
   have hS6 : ∀ w',(w' = w4.drew ∨ w' = w6) → w'.cell? ⟨s.b,1,none⟩ = some (.map (some s.m)):=fun w' h => by
    rcases h with rfl | rfl
    ·exact hm4.blk.cell 1
    ·obtain ⟨_,_,_,hm6⟩:=(he6.st s HS4.out).mem
     exact hm6.blk.cell 1
   have HS6:=hid hS6
   have HE6:=hid he6
   unfold byteK ptrV at hup
   clear hS6 he6 hk6 hmp6 hg6 hsz6 hm4 he5 hk5 hd4 x0 x8 x9
   go_wp2_with fail
   go_region_held3 (fun w' => w'.cell? ⟨s.b,1,none⟩ = some (.map (some s.m)))
    (exact HS6.out _ (by first | exact .inl rfl | exact .inr rfl))
    (fail)
   go_wp2_with fail
   go_ret2
   exact ⟨Own4,Ss4,L4,t,fl,d,rfl,HFR.out,HT.out,HTD.out,HE6.out,HG6.out⟩
end
theorem own_one (W : World) (x : Nat) : (W.alloc (.cells #[.int .i64 (x : Int)] 3)).ownsRow W.heap.size 3 1 (.slice (some ⟨W.heap.size,0,none⟩) 1 1) 1 (natVals [x]) :=
 ⟨rfl,.inr ⟨W.heap.size,1,#[.int .i64 (x : Int)],rfl,Nat.le_refl _,heap_alloc_new W _,Nat.le_refl _,by unfold maxLen;omega,rfl,rfl⟩⟩
def RunAuto (p : List St) (a km : Nat) (pv : Value) (Own : Nat → Prop) (Ss : List ASt) (tx : ByteArray) (f0 : Nat) (w : World) (o : Option Addr) (i : Nat) (wr : World) : Prop :=
 ∃ (Own2 : Nat → Prop) (Ss2 : List ASt) (L2 : List (ByteArray × Value)),AEnv p a km pv Own2 Ss2 L2 wr ∧ Gr none Own Own2 Ss Ss2 w wr ∧
  ((o = none ∧ i = tx.size + 1) ∨ ∃ s ∈ Ss2,o = some ⟨s.b,0,none⟩ ∧ i ≤ tx.size ∧ AtL p tx.data.toList f0 i s.fs)
def LongAuto (p : List St) (a km : Nat) (pv : Value) (Own : Nat → Prop) (Ss : List ASt) (n : Int) (w : World) (e : Ending) (w' : World) : Prop :=
 e = .returned (.tuple #[.int .i64 n,.nilIface]) ∧ ∃ (Own2 : Nat → Prop) (Ss2 : List ASt) (L2 : List (ByteArray × Value)),AEnv p a km pv Own2 Ss2 L2 w' ∧ Gr none Own Own2 Ss Ss2 w w'
theorem ret_li {a b : Int} (h : a = b) : Ending.returned (.tuple #[.int .i64 a,.nilIface]) = .returned (.tuple #[.int .i64 b,.nilIface]):=by rw [h]
theorem atL_tidy {p : List St} {s : List UInt8} {f i : Nat} {xs ys : List Nat} (h : AtL p s f i xs) (ht : Tidy xs ys) : AtL p s f i ys:=fun j => (ht.1 j).trans (h j)
theorem int_beq_t {i n : Nat} (h : i = n) : ((i : Int) == (n : Int)) = true:=by subst h;simp
theorem int_beq_f {i n : Nat} (h : i ≠ n) : ((i : Int) == (n : Int)) = false:=by simp;omega
theorem long_ok (p : List St) (hp : okP p) (hok : ∀ st ∈ p,okC st.cls) (a km : Nat) (pv : Value) (Own : Nat → Prop) (Ss : List ASt) (L : List (ByteArray × Value)) (w : World) (he : AEnv p a km pv Own Ss L w) (tx : ByteArray) (hx : tx.size ≤ 400) (f0 : Nat) (hf : f0 ≤ tx.size) :
 Calls Tryz.prog 131 #[.pointer (some ⟨a,0,none⟩),.string tx,.int .i64 (f0 : Int)] w (LongAuto p a km pv Own Ss (lastL (runL p tx.data.toList f0)) w):=by
 have HE:=hid he
 have hlen:=hp.2.1
 have HCK:=hid (Checked_any p pv tx (f0 : Int) w he.rds (by omega))
 have HZ : Hid (chkRun p tx.size (f0 : Int) = 0):=hid (by unfold chkRun;rw [if_neg (by simpa using chkP_ok.2 hp),if_neg (by omega),if_neg (by omega)])
 rw [HZ.out] at HCK
 have c0 : w.cell? ⟨a,0,none⟩ = some pv:=he.ba.cell 0
 have HP:=hid hp
 have HOK:=hid hok
 have HSZ : Hid (tx.data.toList.length = tx.size):=hid (by simp)
 clear he hp hok
 go_enter Tryz.func131,Tryz.ntmps131
 go_wp2_with fail
 refine HCK.out.mono ?_
 rintro e w1 ⟨he1,hb1⟩
 obtain rfl : e = .returned .nilIface:=he1
 have HE1:=hid (HE.out.below hb1)
 have HG1:=hid (Gr.of_below (Own:=Own) (Ss:=Ss) hb1)
 clear hb1 c0 HE HCK HZ
 have HE2:=hid (HE1.out.alloc (.cells #[.int .i64 0] 3))
 have HOF : Hid (Calls Tryz.prog 164 #[.pointer (some ⟨a,0,none⟩),.slice (some ⟨w1.heap.size,0,none⟩) 1 1] (w1.alloc (.cells #[.int .i64 0] 3)) (AOfIs p a km pv Own Ss (some w1.heap.size) [0] (w1.alloc (.cells #[.int .i64 0] 3)))):=hid (by
  refine of_c p HP.out.2.1 a km pv Own Ss L [0] _ _ HE2.out (own_base (own_one w1 0) (Nat.zero_le _)) (fun g hg hO => ?_) (fun j hj => ?_) (by simp)
  ·have:=HE1.out.lt g hO
   simp [Value.ownBlock] at hg
   omega
  ·obtain rfl : j = 0:=by simpa using hj
   exact HP.out.1)
 go_wp2_with fail
 refine HOF.out.mono ?_
 rintro e w2 ⟨Own2,Ss2,L2,s0,rfl,hs0,ht0,he2,hg2⟩
 have HRUN : Hid (RunAuto p a km pv Own Ss tx f0 w (some ⟨s0.b,0,none⟩) f0 w2):=hid ⟨Own2,Ss2,L2,he2,(HG1.out.trans (Gr.of_below ((Below.refl _ _).alloc (Nat.le_refl _) _)) (by simp)).trans hg2 (fun g hg => .inr (by
  cases hg
  have:=HG1.out.size
  omega)),.inr ⟨s0,hs0,rfl,hf,atL_tidy (AtL.start p tx.data.toList f0) ht0⟩⟩
 clear hs0 ht0 he2 hg2 HOF HE2 HE1 HG1
 go_wp2_with fail
 go_loopw [9,10,11] (fun v9 v10 v11 wr => ∃ (i : Nat) (o : Option Addr) (n : Int),f0 ≤ i ∧ i ≤ tx.size + 1 ∧ v11 = .int .i64 (i : Int) ∧ v10 = .pointer o ∧ v9 = .int .i64 n ∧ Hid (n = lastL (Go.Proofs.YthhcpbfgoofppaaGreatDoor.upTo_ (EndsAt p tx.data.toList f0) i)) ∧ Hid (RunAuto p a km pv Own Ss tx f0 w o i wr)) (fun _ _ i _ => tx.size + 1 - (intOf i).toNat)
 case atStart => exact ⟨f0,_,-1,Nat.le_refl _,by omega,rfl,rfl,rfl,hid (by rw [upTo_first];rfl),HRUN⟩
 case round =>
  clear HRUN
  obtain ⟨i,o,n,hfi,his,rfl,rfl,rfl,HN,HR⟩:=hrel
  obtain ⟨Own3,Ss3,L3,he3,hg3,hcase⟩:=HR.out
  have HE3:=hid he3
  have HG3:=hid hg3
  clear he3 hg3 HR
  rcases hcase with ⟨rfl,rfl⟩ | ⟨s,hs,rfl,hi,hat⟩
  ·have HL : Hid (n = lastL (runL p tx.data.toList f0)):=hid (by rw [HN.out];unfold runL;rw [HSZ.out])
   clear HN
   go_wp2_with fail
   go_ret2
   exact ⟨ret_li HL.out,Own3,Ss3,L3,HE3.out,HG3.out⟩
  ·have hst:=HE3.out.st s hs
   obtain ⟨fv,fr,N,hm⟩:=hst.mem
   obtain ⟨A,cap,rfl⟩:=hm.row.form
   have d0 : wr.cell? ⟨s.b,0,none⟩ = some (.slice A s.fs.length cap):=hm.blk.cell 0
   have HAT:=hid hat
   have HS:=hid hs
   clear hst hm hat hs
   by_cases hfs : s.fs.length = 0
   ·have hg0 : decide (0 < s.fs.length) = false:=by simp [hfs]
    have HL : Hid (n = lastL (runL p tx.data.toList f0)):=hid (by
     have h0 : s.fs = []:=List.length_eq_zero_iff.1 hfs
     rw [HN.out,runL_of (i:=i) (by rw [HSZ.out];exact Nat.le_succ_of_le hi) fun i' hi' => ?_]
     rintro ⟨j,k,h1,_⟩
     exact AtL.none hfi (by have:=HAT.out;rwa [h0] at this) i' hi' j h1)
    clear hfs HN
    go_wp2_with fail
    go_ret2
    exact ⟨ret_li HL.out,Own3,Ss3,L3,HE3.out,HG3.out⟩
   ·have hg0 : decide (0 < s.fs.length) = true:=by simp;omega
    clear hfs
    by_cases hend : i = tx.size
    ·have HST:=hid (step_end p HP.out a km pv Own3 Ss3 L3 s HS.out wr HE3.out tx hx (i == 0) (by rw [← hend];exact int_beq i 0))
     have HI:=hid hend
     rw [← hend] at HST
     clear hend
     go_wp2_with fail
     refine HST.out.mono ?_
     rintro e w4 ⟨fl,d,rfl,hfr,he4,hg4⟩
     have hdn:=AtL.done (s:=tx.data.toList) HAT.out (by rw [show (i == tx.data.toList.length) = true by rw [HSZ.out,HI.out];simp];exact hfr)
     have HRUN : Hid (RunAuto p a km pv Own Ss tx f0 w none (i + 1) w4):=hid ⟨Own3,Ss3,L3,he4,HG3.out.trans hg4 (by simp),.inl ⟨rfl,by rw [HI.out]⟩⟩
     have HDN:=hid hdn
     have hi1 : i + 1 ≤ tx.size + 1:=by omega
     clear hdn hfr he4 hg4 HST
     cases d with
     | true =>
       have HN2 : Hid ((i : Int) = lastL (Go.Proofs.YthhcpbfgoofppaaGreatDoor.upTo_ (EndsAt p tx.data.toList f0) (i + 1))):=hid (by rw [upTo_yes (HDN.out.1 rfl),lastL_snoc])
       go_wp2_with fail
       go_roundw
       case rel => exact ⟨i + 1,none,(i : Int),by omega,hi1,by go_num,rfl,rfl,HN2,HRUN⟩
       case measure => simp [intOf];omega
     | false =>
       have HN2 : Hid (n = lastL (Go.Proofs.YthhcpbfgoofppaaGreatDoor.upTo_ (EndsAt p tx.data.toList f0) (i + 1))):=hid (by rw [upTo_no (fun h => by have:=HDN.out.2 h;cases this)];exact HN.out)
       go_wp2_with fail
       go_roundw
       case rel => exact ⟨i + 1,none,n,by omega,hi1,by go_num,rfl,rfl,HN2,HRUN⟩
       case measure => simp [intOf];omega
    ·have hlt : i < tx.size:=by omega
     have hgk : tx.data.toList[i]? = some tx[i]:=by
      have : tx.data.toList[i]? = tx.data[i]?:=by simp
      rw [this]
      exact Array.getElem?_eq_getElem _
     have HGK:=hid hgk
     have HST : Hid (Calls Tryz.prog 165 #[.pointer (some ⟨a,0,none⟩),.pointer (some ⟨s.b,0,none⟩),.string tx,.int .i64 (i : Int)] wr (StepNext p a km pv Own3 Ss3 (i == 0) tx[i].toNat s wr)):=hid (by
      by_cases h0 : i = 0
      ·rw [show (i == 0) = true by simpa using h0]
       exact step_zero p HP.out a km pv Own3 Ss3 L3 s HS.out wr HE3.out HOK.out tx hx i hlt (int_beq_t h0) (int_beq_f hend)
      ·rw [show (i == 0) = false by simpa using h0]
       exact step_mid p HP.out a km pv Own3 Ss3 L3 s HS.out wr HE3.out HOK.out tx hx i hlt (int_beq_f h0) (int_beq_f hend))
     have HI : Hid ((i == tx.data.toList.length) = false):=hid (by rw [HSZ.out];simpa using hend)
     clear hend hgk
     go_wp2_with fail
     refine HST.out.mono ?_
     rintro e w4 ⟨Own4,Ss4,L4,t,fl,d,rfl,hfr,ht,htd,he4,hg4⟩
     have hfr2 : Front p (i == 0) (i == tx.data.toList.length) s.fs fl d:=by rw [HI.out];exact hfr
     have hdn:=AtL.done (s:=tx.data.toList) HAT.out hfr2
     have HRUN : Hid (RunAuto p a km pv Own Ss tx f0 w (some ⟨t.b,0,none⟩) (i + 1) w4):=hid ⟨Own4,Ss4,L4,he4,HG3.out.trans hg4 (by simp),.inr ⟨t,ht,rfl,by omega,atL_tidy (AtL.next HP.out hfi HAT.out hfr2 HGK.out) htd⟩⟩
     have HDN:=hid hdn
     clear hdn hfr hfr2 he4 hg4 HST ht htd
     cases d with
     | true =>
       have HN2 : Hid ((i : Int) = lastL (Go.Proofs.YthhcpbfgoofppaaGreatDoor.upTo_ (EndsAt p tx.data.toList f0) (i + 1))):=hid (by rw [upTo_yes (HDN.out.1 rfl),lastL_snoc])
       go_wp2_with fail
       go_roundw
       case rel => exact ⟨i + 1,_,(i : Int),by omega,by omega,by go_num,rfl,rfl,HN2,HRUN⟩
       case measure => simp [intOf];omega
     | false =>
       have HN2 : Hid (n = lastL (Go.Proofs.YthhcpbfgoofppaaGreatDoor.upTo_ (EndsAt p tx.data.toList f0) (i + 1))):=hid (by rw [upTo_no (fun h => by have:=HDN.out.2 h;cases this)];exact HN.out)
       go_wp2_with fail
       go_roundw
       case rel => exact ⟨i + 1,_,n,by omega,by omega,by go_num,rfl,rfl,HN2,HRUN⟩
       case measure => simp [intOf];omega
theorem info_stp : (Tryz.prog.info? 262).map (fun i => (i.zero,i.size,i.bytes)) = some (some (.agg #[.int .i64 0,.int .u64 0,.int .u64 0,.int .u64 0,.int .u64 0,.int .i64 0,.int .i64 0]),7,56):=by kernel_rfl
theorem stc_len (l : List St) : (l.flatMap stCells).length = l.length * 7:=by
 induction l with
 | nil => rfl
 | cons x l ih => simp only [List.flatMap_cons,List.length_append,ih,List.length_cons];simp [stCells];omega
theorem stc_one (l : List St) : ∀ u ∈ l.flatMap stCells,u.oneCell' = true:=by
 intro u hu
 rw [List.mem_flatMap] at hu
 obtain ⟨n,_,hn⟩:=hu
 simp [stCells] at hn
 rcases hn with rfl | rfl | rfl | rfl | rfl | rfl | rfl <;> rfl
def CloneIs (p : List St) (w : World) (e : Ending) (w' : World) : Prop :=
 ∃ (A : Option Addr) (cap : Nat),e = .returned (.slice A p.length cap) ∧ w'.ownsRow w.heap.size 262 7 (.slice A p.length cap) p.length (p.flatMap stCells) ∧ Below w.heap.size w w'
theorem block_add (ad : Addr) (j : Nat) : (ad.add j).block = ad.block:=by
 unfold Addr.add;split <;> rfl
theorem own_empty (w : World) (e : TypeId) (size : Nat) : (w.alloc (.cells #[] e)).ownsRow w.heap.size e size (.slice (some ⟨w.heap.size,0,none⟩) 0 0) 0 [] :=
 ⟨by simp,.inr ⟨w.heap.size,0,#[],rfl,Nat.le_refl _,heap_alloc_new w _,Nat.le_refl _,by unfold maxLen;omega,by simp,by simp⟩⟩
theorem Clone_c (p : List St) (hp : 0 < p.length) (hp2 : p.length ≤ 200) (pv : Value) (w : World) (hr : RdS w pv p) :
 Calls Tryz.prog 162 #[pv] w (CloneIs p w):=by
 obtain ⟨i0,hi0,hz0,hz1,hz2⟩:=info_parts info_stp
 have hsrc:=Rd.src hr (by omega)
 obtain ⟨A,n,cap,rfl,hn,hsrc⟩:=hsrc
 rw [stc_len] at hn
 obtain rfl : n = p.length:=by omega
 obtain ⟨ad,rfl,had,hc⟩:=hsrc hp
 have HC : Hid (∀ j u,(p.flatMap stCells)[j]? = some u → (w.alloc (.cells #[] 262)).cell? (ad.add j) = some u):=hid (fun j u hu => by
  have h1:=hc j u hu
  rwa [World.cell?_of_block (Below.heap_alloc w _ _ (by rw [block_add];exact had))])
 have hnil : ∀ W,(binOp .eql 228 (.slice (some ad) p.length cap) (.slice none 0 0)).run Tryz.prog W = .ok (.bool false) W:=fun W => Lib.run_eql_slice_nil W _ _ _ _ _ _ _ Tryz.underlying228
 have HO:=hid (own_empty w 262 7)
 have HL:=hid (stc_len p)
 clear hr hc hsrc
 go_enter Tryz.func162,Tryz.ntmps162
 go_wp2_with (at_builtin;refine wpList_append_own _ rfl (.tmp 5) (.tmp 6) _ rfl w.heap.size 262 i0 _ 7 56 Tryz.underlying228 hi0 hz0 hz1 hz2 rfl (by omega) _ 0 [] rfl HO.out ad p.length cap (p.flatMap stCells) rfl HL.out HC.out (stc_one p) (by unfold maxLen;omega) (by omega) (by simp) ?_;intro v' w' hown' hg' _)
 have hrd:=hown'
 simp only [Nat.zero_add,List.nil_append] at hrd
 have hbel : Below w.heap.size w w':=below_own ((Below.refl _ _).alloc (Nat.le_refl _) _) (Nat.le_refl _) (by simp) HO.out hg'
 obtain ⟨VA,vn,vcap,rfl,_,_,hvl,_⟩:=Rd.of_own hrd
 rw [stc_len] at hvl
 obtain rfl : vn = p.length:=by omega
 have HRD:=hid hrd
 have HBEL:=hid hbel
 clear hrd hbel hown' hg' hvl
 go_wp2_with fail
 go_ret
 exact ⟨VA,vcap,rfl,HRD.out,HBEL.out⟩
def NewIs (p : List St) (w : World) (e : Ending) (w' : World) : Prop :=
 ∃ (a km : Nat) (pv : Value) (Own : Nat → Prop),e = .returned (.tuple #[.pointer (some ⟨a,0,none⟩),.nilIface]) ∧ AEnv p a km pv Own [] [] w' ∧ Below w.heap.size w w' ∧ ∀ k,Own k → w.heap.size ≤ k
theorem New_ok (p : List St) (hp : okP p) (pv : Value) (w : World) (hr : RdS w pv p) : Calls Tryz.prog 130 #[pv] w (NewIs p w):=by
 have hlen:=hp.2.1
 have HCK:=hid (PCheck_any p pv w hr (by omega))
 rw [show chkP p = 0 from chkP_ok.2 hp] at HCK
 have HCL:=hid (fun W h => Clone_c p hp.1 hp.2.1 pv W h)
 have HR:=hid hr
 have hmm:=@run_makeMap Tryz.prog
 clear hr hp
 go_enter Tryz.func130,Tryz.ntmps130
 go_wp2_with fail
 refine HCK.out.mono ?_
 rintro e w1 ⟨he,hb1⟩
 obtain rfl : e = .returned .nilIface:=he
 have HB1:=hid hb1
 clear hb1 HCK
 go_wp2_with fail
 refine (HCL.out w1 (HR.out.below HB1.out)).mono ?_
 rintro e w2 ⟨A,cap,rfl,hown,hb2⟩
 have HO:=hid hown
 have HB2:=hid hb2
 clear hown hb2
 go_wp2_with fail
 go_ret2
 have hsz : (w2.alloc (.map #[] 0)).heap.size = w2.heap.size + 1:=by simp
 have hblk:=Blk.new (w2.alloc (.map #[] 0)) 267 #[.slice A p.length cap,.map (some w2.heap.size)]
 rw [hsz] at hblk
 have hmap:=(Mp.new w2 strK).kept (World.grownBy_alloc (w2.alloc (.map #[] 0)) (.cells #[.slice A p.length cap,.map (some w2.heap.size)] 267) none) (by simp)
 have hrow:=(HO.out.alloc (.map #[] 0)).alloc (.cells #[.slice A p.length cap,.map (some w2.heap.size)] 267)
 have h1:=HB1.out.size
 have h2:=HB2.out.size
 refine ⟨w2.heap.size + 1,w2.heap.size,.slice A p.length cap,(fun k => k = w2.heap.size + 1 ∨ k = w2.heap.size ∨ (Value.slice A p.length cap).ownBlock = some k),rfl,⟨hblk,.inl rfl,.inr (.inl rfl),?_,own_base hrow (Nat.zero_le _),fun g hg => .inr (.inr hg),hmap,by simp,fun k v hv => by simp [getL] at hv,by simp,by simp,by simp,by simp⟩,?_,?_⟩
 ·rintro k (rfl | rfl | hk)
  ·exact hblk.lt
  ·simp;omega
  ·exact (hrow.lt k hk).2
 ·exact ((HB1.out.trans (HB2.out.mono h1)).alloc (by omega) _).alloc (by simp;omega) _
 ·rintro k (rfl | rfl | hk)
  ·omega
  ·omega
  ·have:=(hrow.lt k hk).1;omega
end Go.Proofs.YthhcpbfgoofppaaGreatDoor
