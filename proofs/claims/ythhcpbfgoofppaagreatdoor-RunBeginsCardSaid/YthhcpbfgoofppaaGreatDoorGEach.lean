/-
  EachB, EachC, EachD.
-/
import Derived.Test.YthhcpbfgoofppaaGreatDoorGTie
import Derived.Test.YthhcpbfgoofppaaGreatDoorGVals
import Derived.Test.YthhcpbfgoofppaaGreatDoorWordA
import Derived.Deep.RegionLaw
set_option linter.unusedVariables false
set_option linter.unusedSimpArgs false
namespace Go.Proofs.YthhcpbfgoofppaaGreatDoor
open Go.RowKit Wf
def IntKeep (w w' : World) : Prop:=∀ (g : Nat) (cur : Array Value),w.heap[g]? = some (Obj.cells cur 3 (0,0)) → w'.heap[g]? = some (Obj.cells cur 3 (0,0))
theorem own_int {w w' : World} {base n : Nat} {v : Value} {xs : List Value} (h : w.ownsRow base 3 1 v n xs) (hk : IntKeep w w') : w'.ownsRow base 3 1 v n xs:=by
 refine ⟨h.1,?_⟩
 rcases h.2 with h | ⟨g,cap,cur,h1,h2,h3,h4⟩
 ·exact .inl h
 ·exact .inr ⟨g,cap,cur,h1,h2,hk g cur h3,h4⟩
theorem told_few (ws : List (List UInt8)) (t : List UInt8) (n : Nat) : (toldTo ws t n).length ≤ ws.length * n:=by
 induction n with
 | zero => simp [toldTo]
 | succ n ih =>
   rw [toldTo_succ,List.length_append,Nat.mul_succ]
   have : (toldAt ws t (n + 1)).length ≤ ws.length:=by simp [toldAt];exact endAt_len ws _
   omega
def hitCells (h : Nat × Nat × Nat) : List Value:=[.int .i64 (h.1 : Int),.int .i64 (h.2.1 : Int),.int .i64 (h.2.2 : Int)]
theorem hits_len (S : List (Nat × Nat × Nat)) : (S.flatMap hitCells).length = S.length * 3:=by
 induction S with
 | nil => rfl
 | cons a r ih => simp only [List.flatMap_cons,List.length_append,ih,List.length_cons];simp [hitCells];omega
theorem info_hit : (Tryz.prog.info? 70).map (fun i => (i.zero,i.size,i.bytes)) = some (some (.agg #[.int .i64 0,.int .i64 0,.int .i64 0]),3,24):=by kernel_rfl
structure HitKeep (base : Nat) (W W' : World) : Prop where
 os : W'.os = W.os
 tape : W'.tape = W.tape
 output : W'.output = W.output
 size : W.heap.size ≤ W'.heap.size
 low : ∀ k,k < base → k < W.heap.size → W'.heap[k]? = W.heap[k]?
 keep : ∀ (k : Nat) (o : Obj),W.heap[k]? = some o → (∀ cs fr,o ≠ .cells cs 70 fr) → (∀ cs fr,o ≠ .cells cs 64 fr) → W'.heap[k]? = some o
theorem HitKeep.trans {base : Nat} {a b c : World} (h : HitKeep base a b) (k : HitKeep base b c) : HitKeep base a c :=
 ⟨k.os.trans h.os,k.tape.trans h.tape,k.output.trans h.output,Nat.le_trans h.size k.size,fun q h1 h2 => (k.low q h1 (Nat.lt_of_lt_of_le h2 h.size)).trans (h.low q h1 h2),fun q o h1 h2 h3 => k.keep q o (h.keep q o h1 h2 h3) h2 h3⟩
theorem HitKeep.below {base : Nat} {w w' : World} (h : Below w.heap.size w w') : HitKeep base w w' :=
 ⟨h.os,h.tape,h.output,h.size,fun q _ h2 => h.block q h2,fun q o h1 _ _ => (h.block q (Array.getElem?_eq_some_iff.1 h1).1).trans h1⟩
theorem HitKeep.ints {base : Nat} {w w' : World} (h : HitKeep base w w') : IntKeep w w':=fun g cur hg => h.keep g _ hg (fun cs fr e => by injection e with _ e _;exact absurd e (by decide)) (fun cs fr e => by injection e with _ e _;exact absurd e (by decide))
theorem HitKeep.blk {base g : Nat} {w w' : World} {t : TypeId} {cs : Array Value} (h : HitKeep base w w') (hb : Blk w g t cs) (h1 : t ≠ 70) (h2 : t ≠ 64) : Blk w' g t cs :=
 h.keep g _ hb (fun cs fr e => by injection e with _ e _;exact h1 e) (fun cs fr e => by injection e with _ e _;exact h2 e)
theorem HitKeep.mp {base g : Nat} {w w' : World} {l : List (Nat × Value)} (h : HitKeep base w w') (hm : Mp w g byteW l) : Mp w' g byteW l:=by
 obtain ⟨es,clock,hb,hr⟩:=hm
 exact ⟨es,clock,h.keep g _ hb (fun cs fr e => by cases e) (fun cs fr e => by cases e),hr⟩
theorem HitKeep.row {base : Nat} {w0 w w' : World} {v : Value} {xs : List Nat} (h : HitKeep base w w') (hr : RowK w0 w v xs) : RowK w0 w' v xs:=⟨hr.1,own_int hr.2 h.ints⟩
section
variable {w0 w w' : World} {Nb : Nat} {wv : Value} {root : Kn} {ws : List (List UInt8)} {Ks : List Kn} {bk ev : Kn → Value} {ch : Kn → List (Nat × Value)}
theorem Tied.hk (h : Tied w0 Nb wv root ws Ks ch bk ev w) (hk : HitKeep w0.heap.size w w') : Tied w0 Nb wv root ws Ks ch bk ev w':=by
 have n:=h.net
 refine ⟨⟨hk.blk n.net (by decide) (by decide),n.onb,n.rt,n.ru,fun k hkk => hk.blk (n.blk k hkk) (by decide) (by decide),fun k hkk => hk.mp (n.mp k hkk),n.ob,n.om,n.ib,n.im,n.iu,n.kids,n.all,n.par,?_⟩,h.tie,fun s hs => ?_⟩
 ·exact ⟨hk.os.trans n.keep.os,hk.tape.trans n.keep.tape,hk.output.trans n.keep.output,Nat.le_trans n.keep.size hk.size,fun q hq => (hk.low q hq (Nat.lt_of_lt_of_le hq n.keep.size)).trans (n.keep.block q hq)⟩
 ·obtain ⟨xs,h1,h2⟩:=h.rows s hs
  exact ⟨xs,hk.row h1,h2⟩
theorem Tied.older {wa : World} (h : Tied w0 Nb wv root ws Ks ch bk ev w) (hs : wa.heap.size ≤ w0.heap.size) (hb : Below wa.heap.size wa w) : Tied wa Nb wv root ws Ks ch bk ev w:=by
 have n:=h.net
 refine ⟨⟨n.net,Nat.le_trans hs n.onb,n.rt,n.ru,n.blk,n.mp,fun k hk => Nat.le_trans hs (n.ob k hk),fun k hk => Nat.le_trans hs (n.om k hk),n.ib,n.im,n.iu,n.kids,n.all,n.par,hb⟩,h.tie,fun s hs' => ?_⟩
 obtain ⟨xs,h1,h2⟩:=h.rows s hs'
 exact ⟨xs,h1.base hs,h2⟩
end
structure HitAt (w0 : World) (Wb : Nat) (lv : Value) (l : List ByteArray) (S : List (Nat × Nat × Nat)) (v : Value) (w : World) : Prop where
 box : Blk w w0.heap.size 64 #[v]
 own : w.ownsRow (w0.heap.size + 1) 70 3 v S.length (S.flatMap hitCells)
 wb : Blk w0 Wb 94 #[lv]
 rd : Rd1 w0 lv (strVals l)
 bel : Below w0.heap.size w0 w
theorem HitAt.below {w0 : World} {Wb : Nat} {lv v : Value} {l : List ByteArray} {S : List (Nat × Nat × Nat)} {w w' : World} (h : HitAt w0 Wb lv l S v w) (hb : Below w.heap.size w w') : HitAt w0 Wb lv l S v w' :=
 ⟨h.box.kept hb,h.own.kept (row:=none) ⟨hb.os,hb.tape,hb.output,hb.size,fun i hi _ => hb.block i hi⟩ (by cases v.ownBlock <;> simp),h.wb,h.rd,h.bel.trans (hb.mono h.bel.size)⟩
theorem HitAt.more {w0 : World} {Wb : Nat} {lv v : Value} {l : List ByteArray} {S : List (Nat × Nat × Nat)} {w w1 : World} {g cp : Nat} {h1 : Nat × Nat × Nat} (h : HitAt w0 Wb lv l S v w)
 (hown : w1.ownsRow (w0.heap.size + 1) 70 3 (.slice (some ⟨g,0,none⟩) (S.length + 1) cp) (S.length + 1) (S.flatMap hitCells ++ hitCells h1)) (hg : w.grownBy w1 v.ownBlock) :
 HitAt w0 Wb lv l (S ++ [h1]) (.slice (some ⟨g,0,none⟩) (S.length + 1) cp) (w1.setCell ⟨w0.heap.size,0,none⟩ (.slice (some ⟨g,0,none⟩) (S.length + 1) cp)) ∧ HitKeep w0.heap.size w (w1.setCell ⟨w0.heap.size,0,none⟩ (.slice (some ⟨g,0,none⟩) (S.length + 1) cp)) ∧ Blk w1 w0.heap.size 64 #[v]:=by
 have hlt:=h.own.lt
 have hne : some w0.heap.size ≠ v.ownBlock:=fun e => by have:=(hlt _ e.symm).1;omega
 have hbox:=blk_grown h.box hg hne
 have hgl:=(hown.lt g rfl).1
 have hgo:=hown.kept (grown_setK w1 ⟨w0.heap.size,0,none⟩ (.slice (some ⟨g,0,none⟩) (S.length + 1) cp)) (.inr (fun e => by
  have e2 : g = w0.heap.size:=by simpa [Value.ownBlock] using e
  omega))
 refine ⟨⟨hbox.set_ 0 _,by simpa using hgo,h.wb,h.rd,?_⟩,⟨?_,?_,?_,?_,fun k hk hk2 => ?_,fun k o hk n1 n2 => ?_⟩,hbox⟩
 ·exact (h.bel.grown hg h.bel.size (fun q e => by have:=(hlt q e).1;omega)).setCell (Nat.le_refl _) _
 ·exact hg.os
 ·exact hg.tape
 ·exact hg.output
 ·have:=hg.size;simpa using this
 ·rw [Below.heap_setCell _ _ _ k (by show k ≠ w0.heap.size;omega)]
  exact hg.block k hk2 (fun e => by have:=(hlt _ e.symm).1;omega)
 ·have hkl:=(Array.getElem?_eq_some_iff.1 hk).1
  rw [Below.heap_setCell _ _ _ k (fun e => by
   have e2 : k = w0.heap.size:=e
   have hb:=h.box
   unfold Blk at hb
   rw [e2,hb] at hk
   exact n2 _ _ (Option.some.inj hk).symm)]
  rw [hg.block k hkl (fun e => by
   rcases h.own.2 with ⟨e0,_⟩ | ⟨g',cap',cur,e1,_,e3,_⟩
   ·rw [e0] at e;cases e
   ·rw [e1] at e
    have e2 : k = g':=by simpa [Value.ownBlock] using e
    rw [e2,e3] at hk
    exact n1 _ _ (Option.some.inj hk).symm)]
  exact hk
theorem Tied.below {w0 w w' : World} {Nb : Nat} {wv : Value} {root : Kn} {ws : List (List UInt8)} {Ks : List Kn} {bk ev : Kn → Value} {ch : Kn → List (Nat × Value)} (h : Tied w0 Nb wv root ws Ks ch bk ev w) (hb : Below w.heap.size w w') : Tied w0 Nb wv root ws Ks ch bk ev w':=h.hk (HitKeep.below hb)
def IsTied (w0 : World) (Nb : Nat) (lv : Value) (ws : List (List UInt8)) (w : World) : Prop:=∃ (root : Kn) (Ks : List Kn) (ch : Kn → List (Nat × Value)) (bk ev : Kn → Value),Tied w0 Nb lv root ws Ks ch bk ev w
end Go.Proofs.YthhcpbfgoofppaaGreatDoor
