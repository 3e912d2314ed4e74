/-
  SetA, SetB.
-/
import Derived.Test.YthhcpbfgoofppaaGreatDoorGAll
import Derived.Test.YthhcpbfgoofppaaGreatDoorGEach
import Derived.Test.YthhcpbfgoofppaaGreatDoorGPu
import Derived.Test.YthhcpbfgoofppaaGreatDoorGPy
import Derived.Test.YthhcpbfgoofppaaGreatDoorPk
import Derived.Test.YthhcpbfgoofppaaGreatDoorSynJ
set_option linter.unusedVariables false
set_option linter.unusedSimpArgs false
set_option maxRecDepth 100000
set_option maxHeartbeats 4000000
open Go.Lib (hid)
namespace Go.Proofs.YthhcpbfgoofppaaGreatDoor.setW
open Go.RowKit Wf
set_option linter.unusedVariables false
abbrev Mr:=Mb × (Nat × Nat) × ByteArray
def rvOf (q : Mr) : Value:=.slice (some ⟨q.2.1.1,0,none⟩) (flat q.1.t).length q.2.1.2
def mrCells (q : Mr) : List Value:=[.int .i64 (q.1.id : Int),.string q.1.text,rvOf q,.string q.2.2]
theorem mr_len (ml : List Mr) : (ml.flatMap mrCells).length = ml.length * 4:=by
 induction ml with
 | nil => rfl
 | cons q r ih => simp [mrCells] at ih ⊢;omega
theorem mr_get (l : List Mr) : ∀ (k j : Nat) (q : Mr),l[k]? = some q → j < 4 → (l.flatMap mrCells)[k * 4 + j]? = (mrCells q)[j]?:=by
 induction l with
 | nil => intro k j n h;simp at h
 | cons m r ih =>
   intro k j n h hj
   rcases k with _ | k
   ·simp at h
    subst h
    simp only [List.flatMap_cons,Nat.zero_mul,Nat.zero_add]
    rw [List.getElem?_append_left (by simpa [mrCells] using hj)]
   ·simp only [List.flatMap_cons]
    rw [List.getElem?_append_right (by simp [mrCells];omega)]
    have e : (k + 1) * 4 + j - (mrCells m).length = k * 4 + j:=by simp [mrCells];omega
    rw [e]
    exact ih k j n (by simpa using h) hj
structure SK (B b : Nat) (w w' : World) : Prop where
 bel : Below B w w'
 keep : ∀ (i : Nat) (cs : Array Value) (t : TypeId),i ≠ b → t ≠ 97 → Blk w i t cs → Blk w' i t cs
section
variable {B b : Nat} {w w1 w2 w' : World}
theorem SK.refl (B b : Nat) (w : World) : SK B b w w:=⟨Below.refl _ _,fun _ _ _ _ _ h => h⟩
theorem SK.trans (h : SK B b w w1) (k : SK B b w1 w2) : SK B b w w2:=⟨h.bel.trans k.bel,fun i cs t h1 h2 h3 => k.keep i cs t h1 h2 (h.keep i cs t h1 h2 h3)⟩
theorem SK.of_below (hB : B ≤ w.heap.size) (h : Below w.heap.size w w') : SK B b w w':=⟨h.mono hB,fun _ _ _ _ _ hb => hb.kept h⟩
theorem SK.set (hB : B ≤ b) (w : World) (o : Nat) (u : Value) : SK B b w (w.setCell ⟨b,o,none⟩ u):=⟨(Below.refl _ _).setCell (p:=⟨b,o,none⟩) hB u,fun i cs t h1 _ h3 => h3.far (p:=⟨b,o,none⟩) h1 u⟩
theorem SK.grown {n : Nat} {v : Value} {xs : List Value} (hB : B ≤ w.heap.size) (ho : w.ownsRow B 97 4 v n xs) (hg : w.grownBy w' v.ownBlock) : SK B b w w':=by
 refine ⟨⟨hg.os,hg.tape,hg.output,hg.size,fun i hi => hg.block i (by omega) fun e => by have:=(ho.lt i e.symm).1;omega⟩,fun i cs t _ ht hb => ?_⟩
 refine (hg.block i hb.lt fun e => ?_).trans hb
 obtain ⟨_,h2⟩:=ho
 rcases h2 with ⟨rfl,_⟩ | ⟨g,cap,cur,rfl,_,hgg,_⟩
 ·cases e
 ·have : i = g:=Option.some.inj e
  subst this
  have hb' : w.heap[i]? = some (.cells cs t (0,0)):=hb
  rw [hb'] at hgg
  injection hgg with hgg
  injection hgg with _ hgg _
  exact ht hgg
end
theorem own_sk {B b base n size : Nat} {e : TypeId} {w w' : World} {v : Value} {xs : List Value} (h : w.ownsRow base e size v n xs) (hk : SK B b w w') (he : e ≠ 97) (hb : v.ownBlock ≠ some b) : w'.ownsRow base e size v n xs:=by
 refine ⟨h.1,?_⟩
 rcases h.2 with hn | ⟨g,cap,cur,rfl,hbg,hgg,rest⟩
 ·exact .inl hn
 ·refine .inr ⟨g,cap,cur,rfl,hbg,?_,rest⟩
  exact hk.keep g cur e (fun e => hb (by rw [e];rfl)) he hgg
theorem own_not {base n size b : Nat} {e t : TypeId} {w : World} {v : Value} {xs : List Value} {cs : Array Value} (h : w.ownsRow base e size v n xs) (hb : Blk w b t cs) (ht : t ≠ e) : v.ownBlock ≠ some b:=fun eq => by
 rcases h.2 with ⟨rfl,_⟩ | ⟨g,cap,cur,rfl,_,hgg,_⟩
 ·cases eq
 ·have : g = b:=Option.some.inj eq
  subst this
  have hb' : w.heap[g]? = some (.cells cs t (0,0)):=hb
  rw [hb'] at hgg
  injection hgg with hgg
  injection hgg with _ hgg _
  exact ht hgg
theorem grown_setS (W : World) (g i : Nat) (u : Value) : W.grownBy (W.setCell ⟨g,i,none⟩ u) (some g):=⟨rfl,rfl,rfl,by simp,fun k _ hk => Below.heap_setCell W _ _ k (fun e => hk (by rw [e]))⟩
structure SetAt (B b : Nat) (m : SS) (ml : List Mr) (A : Value) (W : World) : Prop where
 hB : B ≤ b
 ms : m.ms = ml.map (·.1)
 blk : Blk W b 47 #[A,.int .i64 (m.last : Int),.bool m.on,.int .i64 (m.tried : Int)]
 own : W.ownsRow B 97 4 A ml.length (ml.flatMap mrCells)
 mem : ∀ q ∈ ml,OwnT W B (rvOf q) (flat q.1.t) ∧ q.2.2.data.toList = (litL q.1.t).1
 ok : m.ok
 lastb : m.last ≤ 1000000
section
variable {B b : Nat} {m : SS} {ml : List Mr} {A : Value} {W W' : World}
theorem SetAt.lt (h : SetAt B b m ml A W) : b < W.heap.size:=h.blk.lt
theorem SetAt.hBw (h : SetAt B b m ml A W) : B ≤ W.heap.size:=by have:=h.lt;have:=h.hB;omega
theorem SetAt.len (h : SetAt B b m ml A W) : ml.length ≤ 12:=by have:=h.ok.len;rw [h.ms,List.length_map] at this;exact this
theorem SetAt.below (h : SetAt B b m ml A W) (hb : Below W.heap.size W W') : SetAt B b m ml A W' :=
 ⟨h.hB,h.ms,h.blk.kept hb,World.ownsRow.kept (row:=none) h.own ⟨hb.os,hb.tape,hb.output,hb.size,fun i hi _ => hb.block i hi⟩ (by cases hv : A.ownBlock <;> simp),fun q hq => ⟨(h.mem q hq).1.below hb,(h.mem q hq).2⟩,h.ok,h.lastb⟩
theorem SetAt.put (h : SetAt B b m ml A W) (m' : SS) (hms : m'.ms = m.ms) (hok : m'.ok) (hl : m'.last ≤ 1000000) (o : Nat) (u : Value) (hc : (#[A,.int .i64 (m.last : Int),.bool m.on,.int .i64 (m.tried : Int)] : Array Value).setIfInBounds o u = #[A,.int .i64 (m'.last : Int),.bool m'.on,.int .i64 (m'.tried : Int)]) : SetAt B b m' ml A (W.setCell ⟨b,o,none⟩ u) :=
 ⟨h.hB,hms.trans h.ms,by have:=h.blk.set_ o u;rw [hc] at this;exact this,h.own.kept (grown_setS W b o u) (.inr (own_not h.own h.blk (by decide))),fun q hq => ⟨own_sk (h.mem q hq).1 (SK.set h.hB W o u) (by decide) (own_not (h.mem q hq).1 h.blk (by decide)),(h.mem q hq).2⟩,hok,hl⟩
theorem SetAt.open_ (h : SetAt B b m ml A W) : ∃ (Ao : Option Addr) (cap : Nat),A = .slice Ao ml.length cap ∧ ml.length ≤ cap ∧ cap ≤ 9223372036854775807 ∧
 (0 < ml.length → ∃ g,Ao = some ⟨g,0,none⟩ ∧ g < W.heap.size ∧ ∀ (W' : World),(∀ o,W'.cell? ⟨g,o,none⟩ = W.cell? ⟨g,o,none⟩) → ∀ k q,ml[k]? = some q →
   W'.cell? ⟨g,k * 4,none⟩ = some (.int .i64 (q.1.id : Int)) ∧ W'.cell? ⟨g,k * 4 + 1,none⟩ = some (.string q.1.text) ∧ W'.cell? ⟨g,k * 4 + 2,none⟩ = some (rvOf q) ∧ W'.cell? ⟨g,k * 4 + 3,none⟩ = some (.string q.2.2)):=by
 rcases h.own.2 with ⟨hv,h0⟩ | ⟨g,cap,cur,hv,_,hgg,h1,h2,h3,h4⟩
 ·exact ⟨none,0,by rw [hv,h0],by omega,by omega,fun hp => by omega⟩
 ·refine ⟨_,cap,hv,h1,by unfold maxLen at h2;omega,fun hp => ⟨g,rfl,(Array.getElem?_eq_some_iff.1 hgg).1,fun W' hW k q hk => ?_⟩⟩
  have hget : ∀ j u,j < 4 → (mrCells q)[j]? = some u → W.cell? ⟨g,k * 4 + j,none⟩ = some u:=by
   intro j u hj hu
   have:=h.own.cells (g:=g) (by rw [hv];rfl) (k * 4 + j) u (by rw [mr_get ml k j q hk hj];exact hu)
   rw [add_mk,Nat.zero_add] at this
   exact this
  simp only [hW]
  exact ⟨hget 0 _ (by omega) rfl,hget 1 _ (by omega) rfl,hget 2 _ (by omega) rfl,hget 3 _ (by omega) rfl⟩
end
def NewSet (w : World) (e : Ending) (w' : World) : Prop:=e = .returned (.pointer (some ⟨w.heap.size,0,none⟩)) ∧ SetAt w.heap.size w.heap.size SS.zero [] (.slice none 0 0) w' ∧ Below w.heap.size w w'
theorem New_set (w : World) : Calls Tryz.prog 7 #[] w (NewSet w):=by
 go_enter Tryz.func7,Tryz.ntmps7
 go_wp2
 go_ret
 exact ⟨rfl,⟨Nat.le_refl _,rfl,Blk.new _ _ _,⟨by simp,.inl ⟨rfl,rfl⟩⟩,fun q hq => (by cases hq),SS.ok_zero,by decide⟩,(Below.refl _ _).alloc (Nat.le_refl _) _⟩
def SetIs (ret : Value) (B b : Nat) (m : SS) (w : World) (e : Ending) (w' : World) : Prop:=e = .returned ret ∧ ∃ ml A,SetAt B b m ml A w' ∧ SK B b w w'
theorem Filter_set (B b : Nat) (m : SS) (ml : List Mr) (A : Value) (on : Bool) (w : World) (h : SetAt B b m ml A w) :
 Calls Tryz.prog 19 #[.pointer (some ⟨b,0,none⟩),.bool on] w (SetIs (.tuple #[]) B b { m with on:=on } w):=by
 have hz:=h.blk.frozen 2
 have c2 : w.cell? ⟨b,2,none⟩ = some (.bool m.on):=h.blk.cell 2
 have H:=hid h
 clear h
 go_enter Tryz.func19,Tryz.ntmps19
 go_wp2
 go_end0
 exact ⟨rfl,ml,A,H.out.put { m with on:=on } rfl (H.out.ok.tried on m.tried) H.out.lastb 2 _ rfl,SK.set H.out.hB _ _ _⟩
theorem Tried_set (B b : Nat) (m : SS) (ml : List Mr) (A : Value) (w : World) (h : SetAt B b m ml A w) :
 Calls Tryz.prog 21 #[.pointer (some ⟨b,0,none⟩)] w (fun e w' => e = .returned (.int .i64 (m.tried : Int)) ∧ w = w'):=by
 have c3 : w.cell? ⟨b,3,none⟩ = some (.int .i64 (m.tried : Int)):=h.blk.cell 3
 clear h
 go_enter Tryz.func21,Tryz.ntmps21
 go_wp2
 go_ret
 exact ⟨rfl,rfl⟩
set_option linter.unusedVariables false
theorem place_none {m : SS} {ml : List Mr} {x : Int} (hms : m.ms = ml.map (·.1)) (h : ∀ (k : Nat) (q : Mr),ml[k]? = some q → ((q.1.id : Int) ≠ x)) : m.place x = none:=by
 unfold SS.place
 rw [List.findIdx?_eq_none_iff]
 intro y hy
 rw [hms] at hy
 obtain ⟨q,hq,rfl⟩:=List.mem_map.1 hy
 obtain ⟨k,hk⟩:=List.mem_iff_getElem?.1 hq
 simpa using h k q hk
theorem place_some {m : SS} {ml : List Mr} {x : Int} {k : Nat} {q : Mr} (hms : m.ms = ml.map (·.1)) (hk : ml[k]? = some q) (hq : (q.1.id : Int) = x) (h : ∀ (j : Nat) (q : Mr),j < k → ml[j]? = some q → ((q.1.id : Int) ≠ x)) : m.place x = some k:=by
 unfold SS.place
 rw [List.findIdx?_eq_some_iff_getElem,hms]
 have hlt:=(List.getElem?_eq_some_iff.1 hk)
 obtain ⟨hlt,he⟩:=hlt
 refine ⟨by simpa using hlt,?_,fun j hj => ?_⟩
 ·simp [he,hq]
 ·have:=h j (ml[j]'(by omega)) hj (List.getElem?_eq_getElem (by omega))
  simpa using this
def numP : Option Nat → Int
 | some k => (k : Int)
 | none => -1
theorem at1_c (id g N cap : Nat) (tx nd : ByteArray) (x : Int) (b : Nat) (w : World) (hx : w.cell? ⟨b,0,none⟩ = some (.int .i64 x)) (r : Bool) (hr : r = decide ((id : Int) = x)) :
 Calls Tryz.prog 82 #[.agg #[.int .i64 (id : Int),.string tx,.slice (some ⟨g,0,none⟩) N cap,.string nd],.pointer (some ⟨b,0,none⟩)] w (fun e w' => e = .returned (.bool r) ∧ Below w.heap.size w w'):=by
 have he : ((id : Int) == x) = r:=by rw [hr,Bool.eq_iff_iff];simp
 have hP : b < w.heap.size:=World.block_lt_of_cell? w _ hx
 clear hr
 go_enter Tryz.func82,Tryz.ntmps82
 go_wp2
 go_ret
 exact ⟨rfl,(Below.refl _ _).alloc (Nat.le_refl _) _⟩
theorem IndexFunc_c (B b pb : Nat) (m : SS) (ml : List Mr) (A : Value) (x : Int) (w : World) (h : SetAt B b m ml A w) (hx : w.cell? ⟨pb,0,none⟩ = some (.int .i64 x)) :
 Calls Tryz.prog 81 #[A,.func (.func 82) #[] #[.pointer (some ⟨pb,0,none⟩)]] w (fun e w' => e = .returned (.int .i64 (numP (m.place x))) ∧ Below w.heap.size w w'):=by
 obtain ⟨Ao,cap,rfl,hc1,hc2,hmem⟩:=h.open_
 have hlen:=h.len
 have hms:=h.ms
 have HM:=hid hmem
 have HX:=hid fun W (hb : Below w.heap.size w W) => (hb.cell (p:=⟨pb,0,none⟩) (World.block_lt_of_cell? w _ hx)).trans hx
 have HMS:=hid hms
 obtain ⟨R,hR⟩ : ∃ R,R = numP (m.place x):=⟨_,rfl⟩
 have HR:=hid hR
 rw [← hR]
 clear h hmem hx hms hR
 go_enter Tryz.func81,Tryz.ntmps81
 go_wp2_with fail
 go_loopw [8] (fun v8 wr => ∃ k : Nat,k ≤ ml.length ∧ v8 = .int .i64 (k : Int) ∧ Hid (∀ (j : Nat) (q : Mr),j < k → ml[j]? = some q → ((q.1.id : Int) ≠ x)) ∧ Hid (Below w.heap.size w wr)) (fun i _ => ml.length - (intOf i).toNat)
 case atStart => exact ⟨0,by omega,rfl,hid (fun j q hj => by omega),hid (Below.refl _ _)⟩
 case round =>
  obtain ⟨k,hk,rfl,HN,HB⟩:=hrel
  by_cases hlt : k < ml.length
  ·obtain ⟨g,rfl,hg,hcs⟩:=HM.out (by omega)
   have hget : ml[k]? = some (ml[k]'hlt):=List.getElem?_eq_getElem hlt
   generalize ml[k]'hlt = q at hget
   obtain ⟨m0,m1,m2,m3⟩:=hcs wr (fun o => HB.out.cell (p:=⟨g,o,none⟩) hg) k q hget
   have HXW:=HX.out wr HB.out
   have HQ:=hid hget
   obtain ⟨⟨id,tx,t⟩,⟨ng,nc⟩,nd⟩:=q
   unfold rvOf at m2
   dsimp only at m0 m1 m2 m3
   generalize (flat t).length = N at m2
   have k0 : (0 : Int) ≤ (k : Int):=by omega
   have k1 : (k : Int) < (ml.length : Int):=by omega
   obtain ⟨r,hr⟩ : ∃ r,r = decide ((id : Int) = x):=⟨_,rfl⟩
   have HA:=hid (at1_c id ng N nc tx nd x pb wr HXW r hr)
   have HR2:=hid hr
   clear hget hcs HXW hr
   cases r with
   | true =>
     go_wp2_with fail
     refine HA.out.mono ?_
     rintro e w2 ⟨rfl,hb2⟩
     have HB2:=hid (HB.out.trans (hb2.mono HB.out.size))
     clear hb2
     go_wp2_with fail
     go_ret
     refine ⟨?_,HB2.out⟩
     rw [HR.out,place_some HMS.out HQ.out (by simpa using HR2.out.symm) HN.out]
     rfl
   | false =>
     go_wp2_with fail
     refine HA.out.mono ?_
     rintro e w2 ⟨rfl,hb2⟩
     have HB2:=hid (HB.out.trans (hb2.mono HB.out.size))
     have HN2 : Hid (∀ (j : Nat) (q : Mr),j < k + 1 → ml[j]? = some q → ((q.1.id : Int) ≠ x)):=hid fun j q hj hq => by
      by_cases e : j = k
      ·subst e
       rw [HQ.out] at hq
       cases hq
       simpa using HR2.out
      ·exact HN.out j q (by omega) hq
     clear hb2
     go_wp2_with fail
     refine ⟨⟨k + 1,by omega,by go_num,HN2,HB2⟩,by simp [intOf];omega⟩
  ·obtain rfl : k = ml.length:=by omega
   go_wp2_with fail
   go_ret
   refine ⟨?_,HB.out⟩
   rw [HR.out,place_none HMS.out (fun j q hq => HN.out j q (List.getElem?_eq_some_iff.1 hq).1 hq)]
   rfl
theorem at_c (B b : Nat) (m : SS) (ml : List Mr) (A : Value) (x : Int) (w : World) (h : SetAt B b m ml A w) :
 Calls Tryz.prog 51 #[.pointer (some ⟨b,0,none⟩),.int .i64 x] w (fun e w' => e = .returned (.int .i64 (numP (m.place x))) ∧ Below w.heap.size w w'):=by
 have hba : Below w.heap.size w (w.alloc (.cells #[.int .i64 x] 3)):=(Below.refl _ _).alloc (Nat.le_refl _) _
 have HI:=hid (IndexFunc_c B b w.heap.size m ml A x _ (h.below hba) (by simp))
 have c0 : w.cell? ⟨b,0,none⟩ = some A:=h.blk.cell 0
 have hlt:=h.lt
 have HBA:=hid hba
 have hmf : ∀ (fn : Fn) (first cap : Array Value) (w : World),(Instr.makeFunc fn first cap).run Tryz.prog w = .ok (.func fn first cap) w:=fun _ _ _ _ => rfl
 obtain ⟨Ao,cap,rfl,_⟩:=h.open_
 generalize numP (m.place x) = R at *
 clear h hba
 go_enter Tryz.func51,Tryz.ntmps51
 go_wp2_with fail
 refine HI.out.mono ?_
 rintro e w2 ⟨rfl,hb2⟩
 have HB2:=hid (HBA.out.trans (hb2.mono (by simp)))
 clear hb2
 go_wp2_with fail
 go_ret
 exact ⟨rfl,HB2.out⟩
end Go.Proofs.YthhcpbfgoofppaaGreatDoor.setW
