/-
  SynE, SynF, SynG, SynH, SynI.
-/
import Derived.Test.YthhcpbfgoofppaaGreatDoorClsR
import Derived.Test.YthhcpbfgoofppaaGreatDoorGCls
import Derived.Test.YthhcpbfgoofppaaGreatDoorGSynA
import Derived.Deep.LoopGhost
import Derived.Laws.OwnMore
import Derived.Deep.AppendLies
set_option linter.unusedVariables false
set_option linter.unusedSimpArgs false
set_option maxRecDepth 100000
set_option maxHeartbeats 8000000
open Go.Lib (hid)
namespace Go.Proofs.YthhcpbfgoofppaaGreatDoor
open Go.RowKit Wf
theorem rng_span (lo hi : Nat) (h : lo ≤ hi) : rngC lo (hi + 1 - lo) = spanC lo hi:=by
 have h0 : ∀ k,k ≤ lo → selC (fun x => decide (lo ≤ x)) k = zc:=by
  intro k
  induction k with
  | zero => intro _;rfl
  | succ k ih =>
    intro hk
    unfold selC
    rw [if_neg (by simp;omega),ih (by omega)]
 have h1 : ∀ k,rngC lo k = selC (fun x => decide (lo ≤ x)) (lo + k):=by
  intro k
  induction k with
  | zero => rw [Nat.add_zero,h0 lo (Nat.le_refl _)];rfl
  | succ k ih =>
    rw [← Nat.add_assoc]
    unfold selC
    rw [if_pos (by simp)]
    simp only [rngC]
    rw [ih]
 rw [h1,show lo + (hi + 1 - lo) = hi + 1 by omega]
 rfl
structure RBn (w : World) (pb : Nat) (s : ByteArray) (i : Nat) (W : World) : Prop where
 pw : PW w pb s i W
 blk : Blk W w.heap.size 112 #[.int .u64 0,.int .u64 0,.int .u64 0,.int .u64 0]
theorem RBn.start {w : World} {pb i : Nat} {s : ByteArray} (h : PW w pb s i w) (t : TypeId) (ht : t = 112:=by rfl) : RBn w pb s i (w.alloc (.cells #[.int .u64 0,.int .u64 0,.int .u64 0,.int .u64 0] t)):=by
 subst ht
 exact ⟨h.below ((Below.refl _ _).alloc (Nat.le_refl _) _),Blk.new w _ _⟩
theorem RBn.step {w W W' : World} {pb i j : Nat} {s : ByteArray} (h : RBn w pb s i W) (h' : PW W pb s j W') : RBn w pb s j W' :=
 ⟨h.pw.trans h',(h'.grow.block _ h.blk.lt (fun e => by have:=h.pw.lt;rw [← Option.some.inj e] at this;omega)).trans h.blk⟩
theorem RBn.below {w W W' : World} {pb i : Nat} {s : ByteArray} (h : RBn w pb s i W) (hb : Below W.heap.size W W') : RBn w pb s i W':=⟨h.pw.below hb,h.blk.kept hb⟩
def RdC (r : PR (Nat × Nat)) (pb : Nat) (s : ByteArray) (w : World) (e : Ending) (w' : World) : Prop :=
 (∃ d0 d1 d2 d3 : Nat,∃ p j,r = .ok p j ∧ e = .returned (.agg #[.int .u64 (d0 : Int),.int .u64 (d1 : Int),.int .u64 (d2 : Int),.int .u64 (d3 : Int)]) ∧ (d0,d1,d2,d3) = spanC p.1 p.2 ∧ PW w pb s j w') ∨ (∃ k,r = .bad k ∧ PS w pb k e w')
def ClsAt (pb : Nat) (s : ByteArray) (j : Nat) (c : Cls) (w : World) (e : Ending) (w' : World) : Prop :=
 ∃ d0 d1 d2 d3 : Nat,e = .returned (.agg #[.int .u64 (d0 : Int),.int .u64 (d1 : Int),.int .u64 (d2 : Int),.int .u64 (d3 : Int)]) ∧ (d0,d1,d2,d3) = c ∧ PW w pb s j w'
theorem set4_far {W : World} {g k : Nat} {t : TypeId} {cs : Array Value} (h : Blk W k t cs) (hne : k ≠ g) (a b c d : Value) : Blk ((((W.setCell ⟨g,0,none⟩ a).setCell ⟨g,1,none⟩ b).setCell ⟨g,2,none⟩ c).setCell ⟨g,3,none⟩ d) k t cs :=
 (((h.far hne _).far hne _).far hne _).far hne _
theorem PW.set4 {w W : World} {pb i g : Nat} {s : ByteArray} (h : PW w pb s i W) (hg : w.heap.size ≤ g) (a b c d : Value) : PW w pb s i ((((W.setCell ⟨g,0,none⟩ a).setCell ⟨g,1,none⟩ b).setCell ⟨g,2,none⟩ c).setCell ⟨g,3,none⟩ d):=by
 have hlt:=h.lt
 refine ⟨set4_far h.par (by omega) _ _ _ _,?_,h.lt⟩
 have h1:=h.grow
 refine ⟨h1.os,h1.tape,h1.output,by have:=h1.size;simpa using this,fun q hq hn => ?_⟩
 have hqg : q ≠ g:=by omega
 rw [Below.heap_setCell _ _ _ q hqg,Below.heap_setCell _ _ _ q hqg,Below.heap_setCell _ _ _ q hqg,Below.heap_setCell _ _ _ q hqg]
 exact h1.block q hq hn
theorem item_bad1 {ev : Value} {pb : Nat} {s : ByteArray} {i : Nat} (w : World) (h : PIn ev pb s i w) {k : Nat} (hO : oneS s.data.toList i = .bad k) :
 Calls Tryz.prog 219 #[.pointer (some ⟨pb,0,none⟩)] w (PS w pb k):=by
 have h0:=h.pw
 have c1 : (w.alloc (.cells #[.int .u64 0,.int .u64 0,.int .u64 0,.int .u64 0] 112)).cell? ⟨pb,1,none⟩ = some (.int .i64 (i : Int)):=(h.pw.below ((Below.refl _ _).alloc (Nat.le_refl _) _)).c1
 have HO1 : Hid (∀ W,Below w.heap.size w W → Calls Tryz.prog 211 #[.pointer (some ⟨pb,0,none⟩)] W (PS W pb k)):=hid fun W hb => (one_c W (h.below hb)).mono fun e w' hh => hh.bad hO
 clear h hO
 unfold PS at *
 go_enter Tryz.func219,Tryz.ntmps219
 go_wp2_with (first
  | (go_at_call 211;refine (HO1.out _ ((Below.refl _ _).alloc (Nat.le_refl _) _)).mono ?_;rintro e w1 ⟨rfl,hp1⟩;have HB1:=hid ((RBn.start h0 _).pw.grow.trans hp1)))
 exact ⟨rfl,rfl,HB1.out⟩
theorem item_one {ev : Value} {pb : Nat} {s : ByteArray} {i : Nat} (w : World) (h : PIn ev pb s i w) {lo j : Nat} (hO : oneS s.data.toList i = .ok lo j) (hm : s.data.toList[j]? ≠ some 45) :
 Calls Tryz.prog 219 #[.pointer (some ⟨pb,0,none⟩)] w (ClsAt pb s j (spanC lo lo) w):=by
 have h0:=h.pw
 have c1 : (w.alloc (.cells #[.int .u64 0,.int .u64 0,.int .u64 0,.int .u64 0] 112)).cell? ⟨pb,1,none⟩ = some (.int .i64 (i : Int)):=(h.pw.below ((Below.refl _ _).alloc (Nat.le_refl _) _)).c1
 have HO1 : Hid (∀ W,Below w.heap.size w W → Calls Tryz.prog 211 #[.pointer (some ⟨pb,0,none⟩)] W (ByteAt pb s j lo W)):=hid fun W hb => (one_c W (h.below hb)).mono fun e w' hh => hh.ok hO
 obtain ⟨hij,hjs,hlo⟩:=oneS_ok hO
 rw [at_end] at hjs
 have HI : Hid (∀ W,PW w pb s j W → Calls Tryz.prog 149 #[.pointer (some ⟨pb,0,none⟩),.int .u8 45] W (IsNo W)):=hid fun W hw => is_no (c:=45) W hw.here h.sz hjs hm
 have HR:=hid fun W => Range_ok lo lo W (Nat.le_refl _) hlo
 have HX:=hid (rng_span lo lo (Nat.le_refl _))
 clear h hO hm
 unfold ClsAt
 go_enter Tryz.func219,Tryz.ntmps219
 go_wp2_with (first
  | (go_at_call 211;refine (HO1.out _ ((Below.refl _ _).alloc (Nat.le_refl _) _)).mono ?_;rintro e w1 ⟨rfl,hp1⟩;have HB1:=hid ((RBn.start h0 _).step hp1))
  | (go_at_call 149;refine (HI.out w1 HB1.out.pw).mono ?_;rintro e w2 ⟨rfl,hb2⟩;have HB3:=hid (HB1.out.below hb2))
  | (go_at_call 224;refine (HR.out _).mono ?_;rintro e w4 ⟨d0,d1,d2,d3,rfl,hd,hb4⟩;have HB4:=hid (HB3.out.below hb4);have HD:=hid hd;clear hd hb4;obtain ⟨⟨x0,x1,x2,x3⟩,y0,y1,y2,y3⟩:=Blk4 HB4.out.blk;have hsz:=HB4.out.blk.lt))
 refine bodyPost_ret (v:=clsV (d0,d1,d2,d3)) ?_ rfl ⟨d0,d1,d2,d3,rfl,by rw [HD.out,HX.out],?_⟩
 ·obtain ⟨h0,h1,h2,h3⟩:=(Blk4 ((Blk4_set HB4.out.blk (.int .u64 d0) (.int .u64 d1) (.int .u64 d2) (.int .u64 d3)).alloc (.cells #[.int .u64 (d0 : Int),.int .u64 (d1 : Int),.int .u64 (d2 : Int),.int .u64 (d3 : Int)] 112))).1
  simp [results,Tryz.results219,go_sem,clsV,h0,h1,h2,h3]
 ·exact (HB4.out.pw.set4 (Nat.le_refl _) _ _ _ _).below ((Below.refl _ _).alloc (Nat.le_refl _) _)
theorem item_bad2 {ev : Value} {pb : Nat} {s : ByteArray} {i : Nat} (w : World) (h : PIn ev pb s i w) {lo j k : Nat} (hO : oneS s.data.toList i = .ok lo j) (hm : s.data.toList[j]? = some 45) (hO2 : oneS s.data.toList (j + 1) = .bad k) :
 Calls Tryz.prog 219 #[.pointer (some ⟨pb,0,none⟩)] w (PS w pb k):=by
 have h0:=h.pw
 have c1 : (w.alloc (.cells #[.int .u64 0,.int .u64 0,.int .u64 0,.int .u64 0] 112)).cell? ⟨pb,1,none⟩ = some (.int .i64 (i : Int)):=(h.pw.below ((Below.refl _ _).alloc (Nat.le_refl _) _)).c1
 have HO1 : Hid (∀ W,Below w.heap.size w W → Calls Tryz.prog 211 #[.pointer (some ⟨pb,0,none⟩)] W (ByteAt pb s j lo W)):=hid fun W hb => (one_c W (h.below hb)).mono fun e w' hh => hh.ok hO
 obtain ⟨hij,hjs,hlo⟩:=oneS_ok hO
 rw [at_end] at hjs
 have HI : Hid (∀ W,PW w pb s j W → Calls Tryz.prog 149 #[.pointer (some ⟨pb,0,none⟩),.int .u8 45] W (IsYes pb s j W)):=hid fun W hw => is_yes (c:=45) W hw.here h.sz hm
 have hj2:=getE_lt hm
 rw [at_end] at hj2
 have HO2 : Hid (∀ W,PW w pb s (j + 1) W → Calls Tryz.prog 211 #[.pointer (some ⟨pb,0,none⟩)] W (PS W pb k)):=hid fun W hw => (one_c W (h.next hw (by omega))).mono fun e w' hh => hh.bad hO2
 clear h hO hm hO2
 unfold PS at *
 go_enter Tryz.func219,Tryz.ntmps219
 go_wp2_with (first
  | (go_at_call 211;refine (HO1.out _ ((Below.refl _ _).alloc (Nat.le_refl _) _)).mono ?_;rintro e w1 ⟨rfl,hp1⟩;have HB1:=hid ((RBn.start h0 _).step hp1))
  | (go_at_call 149;refine (HI.out w1 HB1.out.pw).mono ?_;rintro e w2 ⟨rfl,hp2⟩;have HB2:=hid (HB1.out.step hp2))
  | (go_at_call 211;refine (HO2.out w2 HB2.out.pw).mono ?_;rintro e w3 ⟨rfl,hp3⟩;have HB3:=hid (HB2.out.pw.grow.trans hp3)))
 exact ⟨rfl,rfl,HB3.out⟩
theorem item_bad3 {ev : Value} {pb : Nat} {s : ByteArray} {i : Nat} (w : World) (h : PIn ev pb s i w) {lo j hi j' : Nat} (hO : oneS s.data.toList i = .ok lo j) (hm : s.data.toList[j]? = some 45) (hO2 : oneS s.data.toList (j + 1) = .ok hi j') (hlt : hi < lo) :
 Calls Tryz.prog 219 #[.pointer (some ⟨pb,0,none⟩)] w (PS w pb i):=by
 have h0:=h.pw
 have c1 : (w.alloc (.cells #[.int .u64 0,.int .u64 0,.int .u64 0,.int .u64 0] 112)).cell? ⟨pb,1,none⟩ = some (.int .i64 (i : Int)):=(h.pw.below ((Below.refl _ _).alloc (Nat.le_refl _) _)).c1
 have HO1 : Hid (∀ W,Below w.heap.size w W → Calls Tryz.prog 211 #[.pointer (some ⟨pb,0,none⟩)] W (ByteAt pb s j lo W)):=hid fun W hb => (one_c W (h.below hb)).mono fun e w' hh => hh.ok hO
 obtain ⟨hij,hjs,hlo⟩:=oneS_ok hO
 rw [at_end] at hjs
 have HI : Hid (∀ W,PW w pb s j W → Calls Tryz.prog 149 #[.pointer (some ⟨pb,0,none⟩),.int .u8 45] W (IsYes pb s j W)):=hid fun W hw => is_yes (c:=45) W hw.here h.sz hm
 have hj2:=getE_lt hm
 rw [at_end] at hj2
 have HO2 : Hid (∀ W,PW w pb s (j + 1) W → Calls Tryz.prog 211 #[.pointer (some ⟨pb,0,none⟩)] W (ByteAt pb s j' hi W)):=hid fun W hw => (one_c W (h.next hw (by omega))).mono fun e w' hh => hh.ok hO2
 have HR:=hid fun W => Range_no lo hi W hlt
 clear h hO hm hO2
 unfold RangeNo errV at HR
 simp only [show ¬ ((1 : Int) = 0) by decide,if_false] at HR
 unfold PS stopV
 go_enter Tryz.func219,Tryz.ntmps219
 go_wp2_with (first
  | (go_at_call 211;refine (HO1.out _ ((Below.refl _ _).alloc (Nat.le_refl _) _)).mono ?_;rintro e w1 ⟨rfl,hp1⟩;have HB1:=hid ((RBn.start h0 _).step hp1))
  | (go_at_call 149;refine (HI.out w1 HB1.out.pw).mono ?_;rintro e w2 ⟨rfl,hp2⟩;have HB2:=hid (HB1.out.step hp2))
  | (go_at_call 211;refine (HO2.out w2 HB2.out.pw).mono ?_;rintro e w3 ⟨rfl,hp3⟩;have HB3:=hid (HB2.out.step hp3))
  | (go_at_call 224;refine (HR.out _).mono ?_;rintro e w4 ⟨rfl,hb4⟩;have HB4:=hid (HB3.out.below hb4);clear hb4))
 exact ⟨rfl,rfl,(HB4.out.pw.below ((Below.refl _ _).alloc (Nat.le_refl _) _)).grow⟩
theorem item_two {ev : Value} {pb : Nat} {s : ByteArray} {i : Nat} (w : World) (h : PIn ev pb s i w) {lo j hi j' : Nat} (hO : oneS s.data.toList i = .ok lo j) (hm : s.data.toList[j]? = some 45) (hO2 : oneS s.data.toList (j + 1) = .ok hi j') (hle : lo ≤ hi) :
 Calls Tryz.prog 219 #[.pointer (some ⟨pb,0,none⟩)] w (ClsAt pb s j' (spanC lo hi) w):=by
 have h0:=h.pw
 have c1 : (w.alloc (.cells #[.int .u64 0,.int .u64 0,.int .u64 0,.int .u64 0] 112)).cell? ⟨pb,1,none⟩ = some (.int .i64 (i : Int)):=(h.pw.below ((Below.refl _ _).alloc (Nat.le_refl _) _)).c1
 have HO1 : Hid (∀ W,Below w.heap.size w W → Calls Tryz.prog 211 #[.pointer (some ⟨pb,0,none⟩)] W (ByteAt pb s j lo W)):=hid fun W hb => (one_c W (h.below hb)).mono fun e w' hh => hh.ok hO
 obtain ⟨hij,hjs,hlo⟩:=oneS_ok hO
 rw [at_end] at hjs
 have HI : Hid (∀ W,PW w pb s j W → Calls Tryz.prog 149 #[.pointer (some ⟨pb,0,none⟩),.int .u8 45] W (IsYes pb s j W)):=hid fun W hw => is_yes (c:=45) W hw.here h.sz hm
 have hj2:=getE_lt hm
 rw [at_end] at hj2
 have HO2 : Hid (∀ W,PW w pb s (j + 1) W → Calls Tryz.prog 211 #[.pointer (some ⟨pb,0,none⟩)] W (ByteAt pb s j' hi W)):=hid fun W hw => (one_c W (h.next hw (by omega))).mono fun e w' hh => hh.ok hO2
 obtain ⟨_,_,hhi⟩:=oneS_ok hO2
 have HR:=hid fun W => Range_ok lo hi W hle hhi
 have HX:=hid (rng_span lo hi hle)
 clear h hO hm hO2
 unfold ClsAt
 go_enter Tryz.func219,Tryz.ntmps219
 go_wp2_with (first
  | (go_at_call 211;refine (HO1.out _ ((Below.refl _ _).alloc (Nat.le_refl _) _)).mono ?_;rintro e w1 ⟨rfl,hp1⟩;have HB1:=hid ((RBn.start h0 _).step hp1))
  | (go_at_call 149;refine (HI.out w1 HB1.out.pw).mono ?_;rintro e w2 ⟨rfl,hp2⟩;have HB2:=hid (HB1.out.step hp2))
  | (go_at_call 211;refine (HO2.out w2 HB2.out.pw).mono ?_;rintro e w3 ⟨rfl,hp3⟩;have HB3:=hid (HB2.out.step hp3))
  | (go_at_call 224;refine (HR.out _).mono ?_;rintro e w4 ⟨d0,d1,d2,d3,rfl,hd,hb4⟩;have HB4:=hid (HB3.out.below hb4);have HD:=hid hd;clear hd hb4;obtain ⟨⟨x0,x1,x2,x3⟩,y0,y1,y2,y3⟩:=Blk4 HB4.out.blk;have hsz:=HB4.out.blk.lt))
 refine bodyPost_ret (v:=clsV (d0,d1,d2,d3)) ?_ rfl ⟨d0,d1,d2,d3,rfl,by rw [HD.out,HX.out],?_⟩
 ·obtain ⟨h0,h1,h2,h3⟩:=(Blk4 ((Blk4_set HB4.out.blk (.int .u64 d0) (.int .u64 d1) (.int .u64 d2) (.int .u64 d3)).alloc (.cells #[.int .u64 (d0 : Int),.int .u64 (d1 : Int),.int .u64 (d2 : Int),.int .u64 (d3 : Int)] 112))).1
  simp [results,Tryz.results219,go_sem,clsV,h0,h1,h2,h3]
 ·exact (HB4.out.pw.set4 (Nat.le_refl _) _ _ _ _).below ((Below.refl _ _).alloc (Nat.le_refl _) _)
theorem item_c {ev : Value} {pb : Nat} {s : ByteArray} {i : Nat} (w : World) (h : PIn ev pb s i w) :
 Calls Tryz.prog 219 #[.pointer (some ⟨pb,0,none⟩)] w (RdC (itemS s.data.toList i) pb s w):=by
 have good : ∀ p j,itemS s.data.toList i = .ok p j → Calls Tryz.prog 219 #[.pointer (some ⟨pb,0,none⟩)] w (ClsAt pb s j (spanC p.1 p.2) w) → Calls Tryz.prog 219 #[.pointer (some ⟨pb,0,none⟩)] w (RdC (itemS s.data.toList i) pb s w):=fun p j h1 h2 => h2.mono fun e w' ⟨d0,d1,d2,d3,q1,q2,q3⟩ => .inl ⟨d0,d1,d2,d3,p,j,h1,q1,q2,q3⟩
 have bad : ∀ k,itemS s.data.toList i = .bad k → Calls Tryz.prog 219 #[.pointer (some ⟨pb,0,none⟩)] w (PS w pb k) → Calls Tryz.prog 219 #[.pointer (some ⟨pb,0,none⟩)] w (RdC (itemS s.data.toList i) pb s w):=fun k h1 h2 => h2.mono fun e w' hh => .inr ⟨k,h1,hh⟩
 cases hO : oneS s.data.toList i with
 | bad k => exact bad k (by unfold itemS;rw [hO]) (item_bad1 w h hO)
 | ok lo j =>
   by_cases hm : s.data.toList[j]? = some 45
   ·cases hO2 : oneS s.data.toList (j + 1) with
    | bad k => exact bad k (by unfold itemS;rw [hO];simp only [if_pos hm];rw [hO2]) (item_bad2 w h hO hm hO2)
    | ok hi j' =>
      by_cases hlt : hi < lo
      ·exact bad i (by unfold itemS;rw [hO];simp only [if_pos hm];rw [hO2];simp only [if_pos hlt]) (item_bad3 w h hO hm hO2 hlt)
      ·exact good (lo,hi) j' (by unfold itemS;rw [hO];simp only [if_pos hm];rw [hO2];simp only [if_neg hlt]) (item_two w h hO hm hO2 (by omega))
   ·exact good (lo,lo) j (by unfold itemS;rw [hO];simp only [if_neg hm]) (item_one w h hO hm)
theorem okC_spanp {d : Cls} {p : Nat × Nat} (h : d = spanC p.1 p.2) : okC d:=by rw [h];exact okC_span _ _
structure IB (w : World) (pb : Nat) (s : ByteArray) (i B : Nat) (c0 c1 c2 c3 : Nat) (W : World) : Prop where
 rb : RBn w pb s i W
 blk : Blk W B 112 #[.int .u64 (c0 : Int),.int .u64 (c1 : Int),.int .u64 (c2 : Int),.int .u64 (c3 : Int)]
 hB : w.heap.size < B
theorem IB.start {w W : World} {pb i : Nat} {s : ByteArray} (h : RBn w pb s i W) : IB w pb s i W.heap.size 0 0 0 0 (W.alloc (.cells #[.int .u64 0,.int .u64 0,.int .u64 0,.int .u64 0] 112)) :=
 ⟨h.below ((Below.refl _ _).alloc (Nat.le_refl _) _),Blk.new W _ _,h.blk.lt⟩
theorem IB.step {w W W' : World} {pb i j B c0 c1 c2 c3 : Nat} {s : ByteArray} (h : IB w pb s i B c0 c1 c2 c3 W) (h' : PW W pb s j W') : IB w pb s j B c0 c1 c2 c3 W' :=
 ⟨h.rb.step h',(h'.grow.block _ h.blk.lt (fun e => by have h1:=h.rb.pw.lt;have h2:=h.hB;rw [Option.some.inj e] at h2;omega)).trans h.blk,h.hB⟩
theorem IB.below {w W W' : World} {pb i B c0 c1 c2 c3 : Nat} {s : ByteArray} (h : IB w pb s i B c0 c1 c2 c3 W) (hb : Below W.heap.size W W') : IB w pb s i B c0 c1 c2 c3 W':=⟨h.rb.below hb,h.blk.kept hb,h.hB⟩
theorem IB.put {w W : World} {pb i B c0 c1 c2 c3 : Nat} {s : ByteArray} (h : IB w pb s i B c0 c1 c2 c3 W) (d0 d1 d2 d3 : Nat) :
 IB w pb s i B d0 d1 d2 d3 ((((W.setCell ⟨B,0,none⟩ (.int .u64 (d0 : Int))).setCell ⟨B,1,none⟩ (.int .u64 (d1 : Int))).setCell ⟨B,2,none⟩ (.int .u64 (d2 : Int))).setCell ⟨B,3,none⟩ (.int .u64 (d3 : Int))) :=
 ⟨⟨h.rb.pw.set4 (Nat.le_of_lt h.hB) _ _ _ _,set4_far h.rb.blk (by have:=h.hB;omega) _ _ _ _⟩,Blk4_set h.blk _ _ _ _,h.hB⟩
def RdK (r : PR Cls) (pb : Nat) (s : ByteArray) (w : World) (e : Ending) (w' : World) : Prop :=
 (∃ c j,r = .ok c j ∧ ClsAt pb s j c w e w') ∨ (∃ k,r = .bad k ∧ PS w pb k e w')
def notIf (b : Bool) (r : PR Cls) : PR Cls:=match r with
 | .bad k => .bad k
 | .ok c j => .ok (if b then notC c else c) j
theorem items_not {ev : Value} {pb : Nat} {s : ByteArray} {i0 : Nat} (w : World) (h : PIn ev pb s i0 w) (hm : s.data.toList[i0]? = some 94) :
 Calls Tryz.prog 210 #[.pointer (some ⟨pb,0,none⟩)] w (RdK (notIf true (itemsS s.data.toList (i0 + 1) zc)) pb s w):=by
 have h0:=h.pw
 have HI : Hid (∀ W,PW w pb s i0 W → Calls Tryz.prog 149 #[.pointer (some ⟨pb,0,none⟩),.int .u8 94] W (IsYes pb s i0 W)):=hid fun W hw => is_yes (c:=94) W hw.here h.sz hm
 have HIN:=hid h
 have hsz:=h.sz
 have HSTART : Hid ((i0 + 1) ≤ s.size):=hid (by first | (have:=getE_lt hm;rw [at_end] at this;omega) | exact h.le)
 clear h hm
 unfold RdK ClsAt
 go_enter Tryz.func210,Tryz.ntmps210
 go_wp2_with (go_at_call 149;refine (HI.out _ (RBn.start h0 _).pw).mono ?_;rintro e w1 ⟨rfl,hp1⟩;have HB1:=hid ((RBn.start h0 _).step hp1);clear hp1)
 have hB:=HB1.out.blk.lt
 have HST:=hid (IB.start HB1.out)
 generalize w1.heap.size = B at *
 go_loopg [7] (s.size + 1) (fun gk _ wr => ∃ (i c0 c1 c2 c3 : Nat),i ≤ s.size ∧ okC (c0,c1,c2,c3) ∧ Hid (IB w pb s i B c0 c1 c2 c3 wr) ∧ Hid (itemsS s.data.toList (i0 + 1) zc = itemsS s.data.toList i (c0,c1,c2,c3)) ∧ Hid (s.size - i < gk))
 case atStart => exact ⟨_,0,0,0,0,HSTART.out,okC_zc,HST,hid rfl,hid (by omega)⟩
 case round =>
  clear HST HB1 h0
  obtain ⟨i,c0,c1,c2,c3,hi,hok,HIB,HEQ,HG⟩:=hrel
  by_cases hend : s.data.toList[i]? = some 93
  ·have HIS : Hid (∀ W,PW w pb s i W → Calls Tryz.prog 149 #[.pointer (some ⟨pb,0,none⟩),.int .u8 93] W (IsYes pb s i W)):=hid fun W hw => is_yes (c:=93) W hw.here hsz hend
   have HF : Hid (notIf true (itemsS s.data.toList (i0 + 1) zc) = .ok (if true then notC (c0,c1,c2,c3) else (c0,c1,c2,c3)) (i + 1)):=hid (by rw [HEQ.out,itemsS_end _ hend];rfl)
   simp only [Bool.false_eq_true,if_true,if_false] at HF
   clear hend HEQ HG
   have HNT:=hid fun W => Not_any c0 c1 c2 c3 W hok
   clear hok
   go_wp2_with (first
    | (go_at_call 149;refine (HIS.out wr HIB.out.rb.pw).mono ?_;rintro e w2 ⟨rfl,hp2⟩;have HB2:=hid (HIB.out.step hp2);clear hp2;obtain ⟨⟨x0,x1,x2,x3⟩,y0,y1,y2,y3⟩:=Blk4 HB2.out.blk)
    | (go_at_call 171;refine (HNT.out _).mono ?_;rintro e w3 ⟨d0,d1,d2,d3,rfl,hd,hb3⟩;have HB3:=hid (HB2.out.below hb3);have HD:=hid hd;clear hd hb3;obtain ⟨⟨p0,p1,p2,p3⟩,q0,q1,q2,q3⟩:=Blk4 HB3.out.rb.blk))
   refine bodyPost_ret (v:=clsV (d0,d1,d2,d3)) ?_ rfl (.inl ⟨_,_,HF.out,d0,d1,d2,d3,rfl,HD.out,?_⟩)
   ·obtain ⟨h0,h1,h2,h3⟩:=(Blk4 (Blk4_set HB3.out.rb.blk (.int .u64 d0) (.int .u64 d1) (.int .u64 d2) (.int .u64 d3))).1
    simp [results,Tryz.results210,go_sem,clsV,h0,h1,h2,h3]
   ·exact HB3.out.rb.pw.set4 (Nat.le_refl _) _ _ _ _
  ·have HIS : Hid (∀ W,PW w pb s i W → Calls Tryz.prog 149 #[.pointer (some ⟨pb,0,none⟩),.int .u8 93] W (IsNo W)):=hid fun W hw => is_no (c:=93) W hw.here hsz hi hend
   cases hit : itemS s.data.toList i with
   | bad k =>
     have HIT : Hid (∀ W,PW w pb s i W → Calls Tryz.prog 219 #[.pointer (some ⟨pb,0,none⟩)] W (PS W pb k)):=hid fun W hw => (item_c W (HIN.out.next hw hi)).mono fun e w' hh => by
      rcases hh with ⟨_,_,_,_,p,j,h1,_⟩ | ⟨k',h1,h2⟩
      ·rw [hit] at h1;cases h1
      ·rw [hit] at h1;cases h1;exact h2
     have HF : Hid (notIf true (itemsS s.data.toList (i0 + 1) zc) = .bad k):=hid (by rw [HEQ.out,itemsS_bad _ hend hit];rfl)
     clear hend HEQ HG hit
     unfold PS at *
     go_wp2_with (go_at_call 149;refine (HIS.out wr HIB.out.rb.pw).mono ?_;rintro e w2 ⟨rfl,hb2⟩;have HB2:=hid (HIB.out.below hb2);clear hb2;obtain ⟨⟨x0,x1,x2,x3⟩,y0,y1,y2,y3⟩:=Blk4 HB2.out.blk)
     have HB2d:=hid (HB2.out.below ((Below.refl _ _).drew))
     obtain ⟨⟨z0,z1,z2,z3⟩,_⟩:=Blk4 HB2d.out.blk
     refine wp_region_any (by kernel_rfl) ?_
     change wpAny _ _ _ _ _ _ _ (World.drew _)
     refine wpAny_take (i:=1) (v:=.pointer (some ⟨pb,0,none⟩)) rfl (by kernel_rfl) (by kernel_rfl) (by kernel_rfl) (fun _ _ _ h => h) (Or.inl ⟨by rfl,by intro w;go_simp⟩) ?_
     refine wpAny_ready (rs:=[0,2]) (by kernel_rfl) (by simp) ?_
     refine AllReady.cons rfl (fun K hK => ?_) (AllReady.cons rfl (fun K hK => ?_) AllReady.nil)
     ·go_simp
      refine hK _ _ ?_
      clear hK K
      refine wpAny_ready (rs:=[2]) (by kernel_rfl) (by simp) ?_
      refine AllReady.cons rfl (fun K hK => ?_) AllReady.nil
      go_simp
      go_wp2_with (go_at_call 219;refine (HIT.out _ HB2d.out.rb.pw).mono ?_;rintro e w3 ⟨rfl,hp3⟩)
      exact ⟨rfl,.inr ⟨k,HF.out,rfl,HB2d.out.rb.pw.grow.trans hp3⟩⟩
     ·go_simp
      go_wp2_with (go_at_call 219;refine (HIT.out _ HB2d.out.rb.pw).mono ?_;rintro e w3 ⟨rfl,hp3⟩)
      exact ⟨rfl,.inr ⟨k,HF.out,rfl,HB2d.out.rb.pw.grow.trans hp3⟩⟩
   | ok p j =>
     have HIT : Hid (∀ W,PW w pb s i W → Calls Tryz.prog 219 #[.pointer (some ⟨pb,0,none⟩)] W (ClsAt pb s j (spanC p.1 p.2) W)):=hid fun W hw => (item_c W (HIN.out.next hw hi)).mono fun e w' hh => by
      rcases hh with ⟨d0,d1,d2,d3,p',j',h1,h2,h3,h4⟩ | ⟨k',h1,h2⟩
      ·rw [hit] at h1;cases h1;exact ⟨d0,d1,d2,d3,h2,h3,h4⟩
      ·rw [hit] at h1;cases h1
     have hjj:=itemS_ok hit
     rw [at_end] at hjj
     have hij:=hjj.1
     have hjs:=hjj.2.1
     have HEQ2 : Hid (itemsS s.data.toList (i0 + 1) zc = itemsS s.data.toList j (eitherC (c0,c1,c2,c3) (spanC p.1 p.2))):=hid (by rw [HEQ.out,itemsS_more _ hend hit])
     have HEI:=hid fun (d0 d1 d2 d3 : Nat) (hd : (d0,d1,d2,d3) = spanC p.1 p.2) W => Either_any c0 c1 c2 c3 d0 d1 d2 d3 W hok (okC_spanp hd)
     have HOK:=hid (okC_either hok (okC_span p.1 p.2))
     have HG2 : Hid (s.size - j < gk - 1):=hid (by have:=HG.out;omega)
     have hg0 : 0 < gk:=by have:=HG.out;omega
     clear hend HEQ HG hit hjj hok
     unfold ClsAt at HIT
     go_wp2_with (go_at_call 149;refine (HIS.out wr HIB.out.rb.pw).mono ?_;rintro e w2 ⟨rfl,hb2⟩;have HB2:=hid (HIB.out.below hb2);clear hb2;obtain ⟨⟨x0,x1,x2,x3⟩,y0,y1,y2,y3⟩:=Blk4 HB2.out.blk)
     have HB2d:=hid (HB2.out.below ((Below.refl _ _).drew))
     go_region_with (first
      | (go_at_call 219;refine (HIT.out _ HB2d.out.rb.pw).mono ?_;rintro e w3 ⟨d0,d1,d2,d3,rfl,hd,hp3⟩;have HD:=hid hd;have HB3:=hid (HB2d.out.step hp3);clear hd hp3;obtain ⟨⟨z0,z1,z2,z3⟩,v0,v1,v2,v3⟩:=Blk4 HB3.out.blk)
      | (go_at_call 218;refine (HEI.out d0 d1 d2 d3 HD.out _).mono ?_;rintro e w4 ⟨f0,f1,f2,f3,rfl,hf,hb4⟩;have HF:=hid hf;have HB4:=hid (HB3.out.below hb4);clear hf hb4;obtain ⟨⟨t0,t1,t2,t3⟩,u0,u1,u2,u3⟩:=Blk4 HB4.out.blk))
     all_goals (
      go_wp2
      go_roundg (gk - 1)
      case rel => exact ⟨j,f0,f1,f2,f3,hjs,by rw [HF.out,HD.out];exact HOK.out,hid (HB4.out.put f0 f1 f2 f3),hid (by rw [HEQ2.out,HF.out,HD.out]),HG2⟩
      all_goals omega)
theorem items_is {ev : Value} {pb : Nat} {s : ByteArray} {i0 : Nat} (w : World) (h : PIn ev pb s i0 w) (hm : s.data.toList[i0]? ≠ some 94) :
 Calls Tryz.prog 210 #[.pointer (some ⟨pb,0,none⟩)] w (RdK (notIf false (itemsS s.data.toList (i0) zc)) pb s w):=by
 have h0:=h.pw
 have HI : Hid (∀ W,PW w pb s i0 W → Calls Tryz.prog 149 #[.pointer (some ⟨pb,0,none⟩),.int .u8 94] W (IsNo W)):=hid fun W hw => is_no (c:=94) W hw.here h.sz h.le hm
 have HIN:=hid h
 have hsz:=h.sz
 have HSTART : Hid ((i0) ≤ s.size):=hid (by first | (have:=getE_lt hm;rw [at_end] at this;omega) | exact h.le)
 clear h hm
 unfold RdK ClsAt
 go_enter Tryz.func210,Tryz.ntmps210
 go_wp2_with (go_at_call 149;refine (HI.out _ (RBn.start h0 _).pw).mono ?_;rintro e w1 ⟨rfl,hb1⟩;have HB1:=hid ((RBn.start h0 _).below hb1);clear hb1)
 have hB:=HB1.out.blk.lt
 have HST:=hid (IB.start HB1.out)
 generalize w1.heap.size = B at *
 go_loopg [7] (s.size + 1) (fun gk _ wr => ∃ (i c0 c1 c2 c3 : Nat),i ≤ s.size ∧ okC (c0,c1,c2,c3) ∧ Hid (IB w pb s i B c0 c1 c2 c3 wr) ∧ Hid (itemsS s.data.toList (i0) zc = itemsS s.data.toList i (c0,c1,c2,c3)) ∧ Hid (s.size - i < gk))
 case atStart => exact ⟨_,0,0,0,0,HSTART.out,okC_zc,HST,hid rfl,hid (by omega)⟩
 case round =>
  clear HST HB1 h0
  obtain ⟨i,c0,c1,c2,c3,hi,hok,HIB,HEQ,HG⟩:=hrel
  by_cases hend : s.data.toList[i]? = some 93
  ·have HIS : Hid (∀ W,PW w pb s i W → Calls Tryz.prog 149 #[.pointer (some ⟨pb,0,none⟩),.int .u8 93] W (IsYes pb s i W)):=hid fun W hw => is_yes (c:=93) W hw.here hsz hend
   have HF : Hid (notIf false (itemsS s.data.toList (i0) zc) = .ok (if false then notC (c0,c1,c2,c3) else (c0,c1,c2,c3)) (i + 1)):=hid (by rw [HEQ.out,itemsS_end _ hend];rfl)
   simp only [Bool.false_eq_true,if_true,if_false] at HF
   clear hend HEQ HG
   clear hok
   go_wp2_with (go_at_call 149;refine (HIS.out wr HIB.out.rb.pw).mono ?_;rintro e w2 ⟨rfl,hp2⟩;have HB2:=hid (HIB.out.step hp2);clear hp2;obtain ⟨⟨x0,x1,x2,x3⟩,y0,y1,y2,y3⟩:=Blk4 HB2.out.blk;obtain ⟨⟨p0,p1,p2,p3⟩,q0,q1,q2,q3⟩:=Blk4 HB2.out.rb.blk)
   refine bodyPost_ret (v:=clsV (c0,c1,c2,c3)) ?_ rfl (.inl ⟨_,_,HF.out,c0,c1,c2,c3,rfl,rfl,?_⟩)
   ·obtain ⟨h0,h1,h2,h3⟩:=(Blk4 (Blk4_set HB2.out.rb.blk (.int .u64 c0) (.int .u64 c1) (.int .u64 c2) (.int .u64 c3))).1
    simp [results,Tryz.results210,go_sem,clsV,h0,h1,h2,h3]
   ·exact HB2.out.rb.pw.set4 (Nat.le_refl _) _ _ _ _
  ·have HIS : Hid (∀ W,PW w pb s i W → Calls Tryz.prog 149 #[.pointer (some ⟨pb,0,none⟩),.int .u8 93] W (IsNo W)):=hid fun W hw => is_no (c:=93) W hw.here hsz hi hend
   cases hit : itemS s.data.toList i with
   | bad k =>
     have HIT : Hid (∀ W,PW w pb s i W → Calls Tryz.prog 219 #[.pointer (some ⟨pb,0,none⟩)] W (PS W pb k)):=hid fun W hw => (item_c W (HIN.out.next hw hi)).mono fun e w' hh => by
      rcases hh with ⟨_,_,_,_,p,j,h1,_⟩ | ⟨k',h1,h2⟩
      ·rw [hit] at h1;cases h1
      ·rw [hit] at h1;cases h1;exact h2
     have HF : Hid (notIf false (itemsS s.data.toList (i0) zc) = .bad k):=hid (by rw [HEQ.out,itemsS_bad _ hend hit];rfl)
     clear hend HEQ HG hit
     unfold PS at *
     go_wp2_with (go_at_call 149;refine (HIS.out wr HIB.out.rb.pw).mono ?_;rintro e w2 ⟨rfl,hb2⟩;have HB2:=hid (HIB.out.below hb2);clear hb2;obtain ⟨⟨x0,x1,x2,x3⟩,y0,y1,y2,y3⟩:=Blk4 HB2.out.blk)
     have HB2d:=hid (HB2.out.below ((Below.refl _ _).drew))
     obtain ⟨⟨z0,z1,z2,z3⟩,_⟩:=Blk4 HB2d.out.blk
     refine wp_region_any (by kernel_rfl) ?_
     change wpAny _ _ _ _ _ _ _ (World.drew _)
     refine wpAny_take (i:=1) (v:=.pointer (some ⟨pb,0,none⟩)) rfl (by kernel_rfl) (by kernel_rfl) (by kernel_rfl) (fun _ _ _ h => h) (Or.inl ⟨by rfl,by intro w;go_simp⟩) ?_
     refine wpAny_ready (rs:=[0,2]) (by kernel_rfl) (by simp) ?_
     refine AllReady.cons rfl (fun K hK => ?_) (AllReady.cons rfl (fun K hK => ?_) AllReady.nil)
     ·go_simp
      refine hK _ _ ?_
      clear hK K
      refine wpAny_ready (rs:=[2]) (by kernel_rfl) (by simp) ?_
      refine AllReady.cons rfl (fun K hK => ?_) AllReady.nil
      go_simp
      go_wp2_with (go_at_call 219;refine (HIT.out _ HB2d.out.rb.pw).mono ?_;rintro e w3 ⟨rfl,hp3⟩)
      exact ⟨rfl,.inr ⟨k,HF.out,rfl,HB2d.out.rb.pw.grow.trans hp3⟩⟩
     ·go_simp
      go_wp2_with (go_at_call 219;refine (HIT.out _ HB2d.out.rb.pw).mono ?_;rintro e w3 ⟨rfl,hp3⟩)
      exact ⟨rfl,.inr ⟨k,HF.out,rfl,HB2d.out.rb.pw.grow.trans hp3⟩⟩
   | ok p j =>
     have HIT : Hid (∀ W,PW w pb s i W → Calls Tryz.prog 219 #[.pointer (some ⟨pb,0,none⟩)] W (ClsAt pb s j (spanC p.1 p.2) W)):=hid fun W hw => (item_c W (HIN.out.next hw hi)).mono fun e w' hh => by
      rcases hh with ⟨d0,d1,d2,d3,p',j',h1,h2,h3,h4⟩ | ⟨k',h1,h2⟩
      ·rw [hit] at h1;cases h1;exact ⟨d0,d1,d2,d3,h2,h3,h4⟩
      ·rw [hit] at h1;cases h1
     have hjj:=itemS_ok hit
     rw [at_end] at hjj
     have hij:=hjj.1
     have hjs:=hjj.2.1
     have HEQ2 : Hid (itemsS s.data.toList (i0) zc = itemsS s.data.toList j (eitherC (c0,c1,c2,c3) (spanC p.1 p.2))):=hid (by rw [HEQ.out,itemsS_more _ hend hit])
     have HEI:=hid fun (d0 d1 d2 d3 : Nat) (hd : (d0,d1,d2,d3) = spanC p.1 p.2) W => Either_any c0 c1 c2 c3 d0 d1 d2 d3 W hok (okC_spanp hd)
     have HOK:=hid (okC_either hok (okC_span p.1 p.2))
     have HG2 : Hid (s.size - j < gk - 1):=hid (by have:=HG.out;omega)
     have hg0 : 0 < gk:=by have:=HG.out;omega
     clear hend HEQ HG hit hjj hok
     unfold ClsAt at HIT
     go_wp2_with (go_at_call 149;refine (HIS.out wr HIB.out.rb.pw).mono ?_;rintro e w2 ⟨rfl,hb2⟩;have HB2:=hid (HIB.out.below hb2);clear hb2;obtain ⟨⟨x0,x1,x2,x3⟩,y0,y1,y2,y3⟩:=Blk4 HB2.out.blk)
     have HB2d:=hid (HB2.out.below ((Below.refl _ _).drew))
     go_region_with (first
      | (go_at_call 219;refine (HIT.out _ HB2d.out.rb.pw).mono ?_;rintro e w3 ⟨d0,d1,d2,d3,rfl,hd,hp3⟩;have HD:=hid hd;have HB3:=hid (HB2d.out.step hp3);clear hd hp3;obtain ⟨⟨z0,z1,z2,z3⟩,v0,v1,v2,v3⟩:=Blk4 HB3.out.blk)
      | (go_at_call 218;refine (HEI.out d0 d1 d2 d3 HD.out _).mono ?_;rintro e w4 ⟨f0,f1,f2,f3,rfl,hf,hb4⟩;have HF:=hid hf;have HB4:=hid (HB3.out.below hb4);clear hf hb4;obtain ⟨⟨t0,t1,t2,t3⟩,u0,u1,u2,u3⟩:=Blk4 HB4.out.blk))
     all_goals (
      go_wp2
      go_roundg (gk - 1)
      case rel => exact ⟨j,f0,f1,f2,f3,hjs,by rw [HF.out,HD.out];exact HOK.out,hid (HB4.out.put f0 f1 f2 f3),hid (by rw [HEQ2.out,HF.out,HD.out]),HG2⟩
      all_goals omega)
theorem items_c {ev : Value} {pb : Nat} {s : ByteArray} {i : Nat} (w : World) (h : PIn ev pb s i w) :
 Calls Tryz.prog 210 #[.pointer (some ⟨pb,0,none⟩)] w (RdK (bracketS s.data.toList i) pb s w):=by
 by_cases hm : s.data.toList[i]? = some 94
 ·have e : bracketS s.data.toList i = notIf true (itemsS s.data.toList (i + 1) zc):=by unfold bracketS notIf;rw [if_pos hm];cases itemsS s.data.toList (i + 1) zc <;> rfl
  rw [e]
  exact items_not w h hm
 ·have e : bracketS s.data.toList i = notIf false (itemsS s.data.toList i zc):=by unfold bracketS notIf;rw [if_neg hm];cases itemsS s.data.toList i zc <;> rfl
  rw [e]
  exact items_is w h hm
def OwnT (w : World) (base : Nat) (v : Value) (l : List Nd) : Prop:=w.ownsRow base 114 5 v l.length (l.flatMap ndCells)
theorem OwnT.grown {w w' : World} {base pb : Nat} {v : Value} {l : List Nd} (h : OwnT w base v l) (hg : w.grownBy w' (some pb)) (hb : pb < base) : OwnT w' base v l :=
 World.ownsRow.kept h hg (.inr (fun e => by have:=(h.lt pb e).1;omega))
theorem OwnT.below {w w' : World} {base : Nat} {v : Value} {l : List Nd} (h : OwnT w base v l) (hb : Below w.heap.size w w') : OwnT w' base v l :=
 World.ownsRow.kept (row:=none) h ⟨hb.os,hb.tape,hb.output,hb.size,fun q hq _ => hb.block q hq⟩ (by cases v.ownBlock <;> simp)
theorem OwnT.base {w : World} {base base' : Nat} {v : Value} {l : List Nd} (h : OwnT w base v l) (hb : base' ≤ base) : OwnT w base' v l:=by
 refine ⟨h.1,?_⟩
 rcases h.2 with hn | ⟨g,cap,cur,hv,h1,rest⟩
 ·exact .inl hn
 ·exact .inr ⟨g,cap,cur,hv,Nat.le_trans hb h1,rest⟩
theorem own_node (w : World) (B : Nat) (hB : w.heap.size = B) (base : Nat) (hb : base ≤ w.heap.size) (op : Int) (c0 c1 c2 c3 : Nat) : OwnT (w.alloc (.cells #[.int .i64 op,.int .u64 (c0 : Int),.int .u64 (c1 : Int),.int .u64 (c2 : Int),.int .u64 (c3 : Int)] 114)) base (.slice (some ⟨B,0,none⟩) 1 1) [⟨op,c0,c1,c2,c3⟩]:=by
 subst hB
 exact World.ownsRow_lit w _ 1 hb (by unfold maxLen;omega) rfl
def TreeAt (pb : Nat) (s : ByteArray) (t : Rx) (j : Nat) (w : World) (e : Ending) (w' : World) : Prop :=
 ∃ g cap,e = .returned (.slice (some ⟨g,0,none⟩) (flat t).length cap) ∧ OwnT w' w.heap.size (.slice (some ⟨g,0,none⟩) (flat t).length cap) (flat t) ∧ PW w pb s j w'
def RdT (r : PR Rx) (pb : Nat) (s : ByteArray) (w : World) (e : Ending) (w' : World) : Prop :=
 (∃ t j,r = .ok t j ∧ TreeAt pb s t j w e w') ∨ (∃ k,r = .bad k ∧ PS w pb k e w')
theorem RdT.ok {r : PR Rx} {pb : Nat} {s : ByteArray} {w w' : World} {e : Ending} {t : Rx} {j : Nat} (hr : r = .ok t j) (h : RdT r pb s w e w') : TreeAt pb s t j w e w':=by
 rcases h with ⟨t',j',h1,h2⟩ | ⟨k,h1,_⟩
 ·rw [hr] at h1;cases h1;exact h2
 ·rw [hr] at h1;cases h1
theorem RdT.bad {r : PR Rx} {pb : Nat} {s : ByteArray} {w w' : World} {e : Ending} {k : Nat} (hr : r = .bad k) (h : RdT r pb s w e w') : PS w pb k e w':=by
 rcases h with ⟨t',j',h1,h2⟩ | ⟨k',h1,h2⟩
 ·rw [hr] at h1;cases h1
 ·rw [hr] at h1;cases h1;exact h2
theorem RdK.ok {r : PR Cls} {pb : Nat} {s : ByteArray} {w w' : World} {e : Ending} {c : Cls} {j : Nat} (hr : r = .ok c j) (h : RdK r pb s w e w') : ClsAt pb s j c w e w':=by
 rcases h with ⟨t',j',h1,h2⟩ | ⟨k,h1,_⟩
 ·rw [hr] at h1;cases h1;exact h2
 ·rw [hr] at h1;cases h1
theorem RdK.bad {r : PR Cls} {pb : Nat} {s : ByteArray} {w w' : World} {e : Ending} {k : Nat} (hr : r = .bad k) (h : RdK r pb s w e w') : PS w pb k e w':=by
 rcases h with ⟨t',j',h1,h2⟩ | ⟨k',h1,h2⟩
 ·rw [hr] at h1;cases h1
 ·rw [hr] at h1;cases h1;exact h2
def NodeIs (op : Int) (w : World) (e : Ending) (w' : World) : Prop:=e = .returned (.slice (some ⟨w.heap.size,0,none⟩) 1 1) ∧ OwnT w' w.heap.size (.slice (some ⟨w.heap.size,0,none⟩) 1 1) [⟨op,zc⟩] ∧ Below w.heap.size w w'
theorem node_c (op : Int) (w : World) : Calls Tryz.prog 150 #[.int .i64 op] w (NodeIs op w):=by
 unfold NodeIs
 go_enter Tryz.func150,Tryz.ntmps150
 go_wp2
 go_ret
 exact ⟨rfl,own_node w _ rfl _ (Nat.le_refl _) op 0 0 0 0,(Below.refl _ _).alloc (Nat.le_refl _) _⟩
theorem atomS_at {s : List UInt8} {i : Nat} {c : UInt8} (h : s[i]? = some c) : atomS s i =
 if c = 40 then
  match orS s (i + 1) with
  | .bad k => .bad k
  | .ok t j => if s[j]? = some 41 then .ok t (j + 1) else .bad j
 else if c = 91 then
  match bracketS s (i + 1) with
  | .bad k => .bad k
  | .ok c j => .ok (.byte c) j
 else if c = 46 then .ok (.byte dotC) (i + 1)
 else if c = 94 then .ok .bgn (i + 1)
 else if c = 36 then .ok .fin (i + 1)
 else match oneS s i with
  | .bad k => .bad k
  | .ok b j => .ok (.byte (withB zc b)) j:=by
 obtain ⟨hi,he⟩:=List.getElem?_eq_some_iff.1 h
 rw [atomS,dif_pos hi,he]
 rfl
theorem atomS_none {s : List UInt8} {i : Nat} (h : s[i]? = none) : atomS s i = .bad s.length:=by
 have:=List.getElem?_eq_none_iff.1 h
 rw [atomS,dif_neg (by omega)]
theorem oneS_none {s : List UInt8} {i : Nat} (h : s[i]? = none) : oneS s i = .bad s.length:=by unfold oneS;rw [h]
theorem atomS_one {s : List UInt8} {i : Nat} (h1 : s[i]? ≠ some 40) (h2 : s[i]? ≠ some 91) (h3 : s[i]? ≠ some 46) (h4 : s[i]? ≠ some 94) (h5 : s[i]? ≠ some 36) : atomS s i = match oneS s i with
 | .bad k => .bad k
 | .ok b j => .ok (.byte (withB zc b)) j:=by
 cases h : s[i]? with
 | none => rw [atomS_none h,oneS_none h]
 | some c =>
   rw [h] at h1 h2 h3 h4 h5
   rw [atomS_at h,if_neg (fun e => h1 (by rw [e])),if_neg (fun e => h2 (by rw [e])),if_neg (fun e => h3 (by rw [e])),if_neg (fun e => h4 (by rw [e])),if_neg (fun e => h5 (by rw [e]))]
theorem convS_byte (bb : Nat) (hb : bb < 256) (w : World) : (convert 30 9 (.slice (some ⟨w.heap.size,0,none⟩) 1 1)).run Tryz.prog (w.alloc (.cells #[.int .u8 (bb : Int)] 5)) = .ok (.string ⟨#[UInt8.ofNat bb]⟩) (w.alloc (.cells #[.int .u8 (bb : Int)] 5)):=by
 have h:=run_convert_bytes_back (P:=Tryz.prog) (w.alloc (.cells #[.int .u8 (bb : Int)] 5)) 30 9 5 ⟨w.heap.size,0,none⟩ 1 [UInt8.ofNat bb] Tryz.underlying30 Tryz.underlying5 Tryz.underlying9 (by
  intro j hj
  have : j = 0:=by simpa using hj
  subst this
  have e : (UInt8.ofNat bb).toNat = bb:=by simp;omega
  rw [add_mk,Nat.add_zero,(Blk.new w 5 #[.int .u8 (bb : Int)]).cell 0]
  simp [Nat.mod_eq_of_lt hb])
 exact h
section
variable {ev : Value} {pb : Nat} {s : ByteArray} {i : Nat} {w : World}
theorem PIn.no (h : PIn ev pb s i w) {c : UInt8} (hc : s.data.toList[i]? ≠ some c) : Hid (∀ W,PW w pb s i W → Calls Tryz.prog 149 #[.pointer (some ⟨pb,0,none⟩),.int .u8 (c.toNat : Int)] W (IsNo W)):=hid fun W hw => is_no W hw.here h.sz h.le hc
theorem PIn.yes (h : PIn ev pb s i w) {c : UInt8} (hc : s.data.toList[i]? = some c) : Hid (∀ W,PW w pb s i W → Calls Tryz.prog 149 #[.pointer (some ⟨pb,0,none⟩),.int .u8 (c.toNat : Int)] W (IsYes pb s i W)):=hid fun W hw => is_yes W hw.here h.sz hc
end
theorem atom_bgn {ev : Value} {pb : Nat} {s : ByteArray} {i : Nat} (w : World) (h : PIn ev pb s i w) (hc : s.data.toList[i]? = some 94) :
 Calls Tryz.prog 197 #[.pointer (some ⟨pb,0,none⟩)] w (TreeAt pb s .bgn (i + 1) w):=by
 have NO0 : Hid (∀ W,PW w pb s i W → Calls Tryz.prog 149 #[.pointer (some ⟨pb,0,none⟩),.int .u8 40] W (IsNo W)):=h.no (c:=40) (by rw [hc];decide)
 have NO1 : Hid (∀ W,PW w pb s i W → Calls Tryz.prog 149 #[.pointer (some ⟨pb,0,none⟩),.int .u8 91] W (IsNo W)):=h.no (c:=91) (by rw [hc];decide)
 have NO2 : Hid (∀ W,PW w pb s i W → Calls Tryz.prog 149 #[.pointer (some ⟨pb,0,none⟩),.int .u8 46] W (IsNo W)):=h.no (c:=46) (by rw [hc];decide)
 have YES : Hid (∀ W,PW w pb s i W → Calls Tryz.prog 149 #[.pointer (some ⟨pb,0,none⟩),.int .u8 94] W (IsYes pb s i W)):=h.yes (c:=94) hc
 have HN:=hid fun W => node_c 8 W
 unfold NodeIs at HN
 have HP0:=hid h.pw
 clear h hc
 unfold TreeAt
 go_enter Tryz.func197,Tryz.ntmps197
 go_wp2_with fail
 refine (NO0.out _ HP0.out).mono ?_
 rintro e x1 ⟨rfl,hb⟩
 have HP1:=hid (HP0.out.below hb)
 clear hb
 go_wp2_with fail
 refine (NO1.out _ HP1.out).mono ?_
 rintro e x2 ⟨rfl,hb⟩
 have HP2:=hid (HP1.out.below hb)
 clear hb
 go_wp2_with fail
 refine (NO2.out _ HP2.out).mono ?_
 rintro e x3 ⟨rfl,hb⟩
 have HP3:=hid (HP2.out.below hb)
 clear hb
 go_wp2_with fail
 refine (YES.out _ HP3.out).mono ?_
 rintro e y ⟨rfl,hp⟩
 have HY:=hid (HP3.out.trans hp)
 clear hp
 go_wp2_with fail
 refine (HN.out _).mono ?_
 rintro e z ⟨rfl,ho,hb⟩
 have HZ:=hid (HY.out.below hb)
 have HO:=hid ho
 clear ho hb
 go_wp2_with fail
 go_ret
 exact ⟨_,_,rfl,HO.out.base HY.out.grow.size,HZ.out⟩
theorem atom_fin {ev : Value} {pb : Nat} {s : ByteArray} {i : Nat} (w : World) (h : PIn ev pb s i w) (hc : s.data.toList[i]? = some 36) :
 Calls Tryz.prog 197 #[.pointer (some ⟨pb,0,none⟩)] w (TreeAt pb s .fin (i + 1) w):=by
 have NO0 : Hid (∀ W,PW w pb s i W → Calls Tryz.prog 149 #[.pointer (some ⟨pb,0,none⟩),.int .u8 40] W (IsNo W)):=h.no (c:=40) (by rw [hc];decide)
 have NO1 : Hid (∀ W,PW w pb s i W → Calls Tryz.prog 149 #[.pointer (some ⟨pb,0,none⟩),.int .u8 91] W (IsNo W)):=h.no (c:=91) (by rw [hc];decide)
 have NO2 : Hid (∀ W,PW w pb s i W → Calls Tryz.prog 149 #[.pointer (some ⟨pb,0,none⟩),.int .u8 46] W (IsNo W)):=h.no (c:=46) (by rw [hc];decide)
 have NO3 : Hid (∀ W,PW w pb s i W → Calls Tryz.prog 149 #[.pointer (some ⟨pb,0,none⟩),.int .u8 94] W (IsNo W)):=h.no (c:=94) (by rw [hc];decide)
 have YES : Hid (∀ W,PW w pb s i W → Calls Tryz.prog 149 #[.pointer (some ⟨pb,0,none⟩),.int .u8 36] W (IsYes pb s i W)):=h.yes (c:=36) hc
 have HN:=hid fun W => node_c 9 W
 unfold NodeIs at HN
 have HP0:=hid h.pw
 clear h hc
 unfold TreeAt
 go_enter Tryz.func197,Tryz.ntmps197
 go_wp2_with fail
 refine (NO0.out _ HP0.out).mono ?_
 rintro e x1 ⟨rfl,hb⟩
 have HP1:=hid (HP0.out.below hb)
 clear hb
 go_wp2_with fail
 refine (NO1.out _ HP1.out).mono ?_
 rintro e x2 ⟨rfl,hb⟩
 have HP2:=hid (HP1.out.below hb)
 clear hb
 go_wp2_with fail
 refine (NO2.out _ HP2.out).mono ?_
 rintro e x3 ⟨rfl,hb⟩
 have HP3:=hid (HP2.out.below hb)
 clear hb
 go_wp2_with fail
 refine (NO3.out _ HP3.out).mono ?_
 rintro e x4 ⟨rfl,hb⟩
 have HP4:=hid (HP3.out.below hb)
 clear hb
 go_wp2_with fail
 refine (YES.out _ HP4.out).mono ?_
 rintro e y ⟨rfl,hp⟩
 have HY:=hid (HP4.out.trans hp)
 clear hp
 go_wp2_with fail
 refine (HN.out _).mono ?_
 rintro e z ⟨rfl,ho,hb⟩
 have HZ:=hid (HY.out.below hb)
 have HO:=hid ho
 clear ho hb
 go_wp2_with fail
 go_ret
 exact ⟨_,_,rfl,HO.out.base HY.out.grow.size,HZ.out⟩
theorem atom_dot {ev : Value} {pb : Nat} {s : ByteArray} {i : Nat} (w : World) (h : PIn ev pb s i w) (hc : s.data.toList[i]? = some 46) :
 Calls Tryz.prog 197 #[.pointer (some ⟨pb,0,none⟩)] w (TreeAt pb s (.byte dotC) (i + 1) w):=by
 have NO0 : Hid (∀ W,PW w pb s i W → Calls Tryz.prog 149 #[.pointer (some ⟨pb,0,none⟩),.int .u8 40] W (IsNo W)):=h.no (c:=40) (by rw [hc];decide)
 have NO1 : Hid (∀ W,PW w pb s i W → Calls Tryz.prog 149 #[.pointer (some ⟨pb,0,none⟩),.int .u8 91] W (IsNo W)):=h.no (c:=91) (by rw [hc];decide)
 have YES : Hid (∀ W,PW w pb s i W → Calls Tryz.prog 149 #[.pointer (some ⟨pb,0,none⟩),.int .u8 46] W (IsYes pb s i W)):=h.yes (c:=46) hc
 have HN:=hid fun W => Dot_any W
 unfold ClsIs at HN
 have HP0:=hid h.pw
 clear h hc
 unfold TreeAt
 go_enter Tryz.func197,Tryz.ntmps197
 go_wp2_with fail
 refine (NO0.out _ HP0.out).mono ?_
 rintro e x1 ⟨rfl,hb⟩
 have HP1:=hid (HP0.out.below hb)
 clear hb
 go_wp2_with fail
 refine (NO1.out _ HP1.out).mono ?_
 rintro e x2 ⟨rfl,hb⟩
 have HP2:=hid (HP1.out.below hb)
 clear hb
 go_wp2_with fail
 refine (YES.out _ HP2.out).mono ?_
 rintro e y ⟨rfl,hp⟩
 have HY:=hid (HP2.out.trans hp)
 clear hp
 go_wp2_with fail
 refine (HN.out _).mono ?_
 rintro e z ⟨d0,d1,d2,d3,rfl,hd,hb⟩
 have HZ:=hid (HY.out.below hb)
 have HD:=hid hd
 clear hd hb
 go_wp2_with fail
 go_ret
 refine ⟨z.heap.size,1,rfl,?_,HZ.out.below ((Below.refl _ _).alloc (Nat.le_refl _) _)⟩
 have:=own_node z _ rfl w.heap.size HZ.out.grow.size 1 d0 d1 d2 d3
 rw [HD.out] at this
 exact this
theorem atom_cls {ev : Value} {pb : Nat} {s : ByteArray} {i : Nat} (w : World) (h : PIn ev pb s i w) (hc : s.data.toList[i]? = some 91) {c : Cls} {j : Nat} (hr : bracketS s.data.toList (i + 1) = .ok c j) :
 Calls Tryz.prog 197 #[.pointer (some ⟨pb,0,none⟩)] w (TreeAt pb s (.byte c) j w):=by
 have NO0 : Hid (∀ W,PW w pb s i W → Calls Tryz.prog 149 #[.pointer (some ⟨pb,0,none⟩),.int .u8 40] W (IsNo W)):=h.no (c:=40) (by rw [hc];decide)
 have YES : Hid (∀ W,PW w pb s i W → Calls Tryz.prog 149 #[.pointer (some ⟨pb,0,none⟩),.int .u8 91] W (IsYes pb s i W)):=h.yes (c:=91) hc
 have hi2:=getE_lt hc
 rw [at_end] at hi2
 have HI : Hid (∀ W,PW w pb s (i + 1) W → Calls Tryz.prog 210 #[.pointer (some ⟨pb,0,none⟩)] W (ClsAt pb s j c W)):=hid fun W hw => (items_c W (h.next hw (by omega))).mono fun e w' hh => hh.ok hr
 have HP0:=hid h.pw
 unfold ClsAt at HI
 clear h hc hr
 unfold TreeAt
 go_enter Tryz.func197,Tryz.ntmps197
 go_wp2_with fail
 refine (NO0.out _ HP0.out).mono ?_
 rintro e x1 ⟨rfl,hb⟩
 have HP1:=hid (HP0.out.below hb)
 clear hb
 go_wp2_with fail
 refine (YES.out _ HP1.out).mono ?_
 rintro e y ⟨rfl,hp⟩
 have HY:=hid (HP1.out.trans hp)
 clear hp
 go_wp2_with fail
 refine (HI.out _ HY.out).mono ?_
 rintro e z ⟨d0,d1,d2,d3,rfl,hd,hp⟩
 have HZ:=hid (HY.out.trans hp)
 have HD:=hid hd
 clear hd hp
 go_wp2_with fail
 go_ret
 refine ⟨z.heap.size,1,rfl,?_,HZ.out.below ((Below.refl _ _).alloc (Nat.le_refl _) _)⟩
 have:=own_node z _ rfl w.heap.size HZ.out.grow.size 1 d0 d1 d2 d3
 rw [HD.out] at this
 exact this
theorem atom_clsbad {ev : Value} {pb : Nat} {s : ByteArray} {i : Nat} (w : World) (h : PIn ev pb s i w) (hc : s.data.toList[i]? = some 91) {k : Nat} (hr : bracketS s.data.toList (i + 1) = .bad k) :
 Calls Tryz.prog 197 #[.pointer (some ⟨pb,0,none⟩)] w (PS w pb k):=by
 have NO0 : Hid (∀ W,PW w pb s i W → Calls Tryz.prog 149 #[.pointer (some ⟨pb,0,none⟩),.int .u8 40] W (IsNo W)):=h.no (c:=40) (by rw [hc];decide)
 have YES : Hid (∀ W,PW w pb s i W → Calls Tryz.prog 149 #[.pointer (some ⟨pb,0,none⟩),.int .u8 91] W (IsYes pb s i W)):=h.yes (c:=91) hc
 have hi2:=getE_lt hc
 rw [at_end] at hi2
 have HI : Hid (∀ W,PW w pb s (i + 1) W → Calls Tryz.prog 210 #[.pointer (some ⟨pb,0,none⟩)] W (PS W pb k)):=hid fun W hw => (items_c W (h.next hw (by omega))).mono fun e w' hh => hh.bad hr
 have HP0:=hid h.pw
 clear h hc hr
 unfold PS at *
 go_enter Tryz.func197,Tryz.ntmps197
 go_wp2_with fail
 refine (NO0.out _ HP0.out).mono ?_
 rintro e x1 ⟨rfl,hb⟩
 have HP1:=hid (HP0.out.below hb)
 clear hb
 go_wp2_with fail
 refine (YES.out _ HP1.out).mono ?_
 rintro e y ⟨rfl,hp⟩
 have HY:=hid (HP1.out.trans hp)
 clear hp
 go_wp2_with fail
 refine (HI.out _ HY.out).mono ?_
 rintro e z ⟨rfl,hp⟩
 exact ⟨rfl,rfl,HY.out.grow.trans hp⟩
theorem atom_onebad {ev : Value} {pb : Nat} {s : ByteArray} {i : Nat} (w : World) (h : PIn ev pb s i w) (h1 : s.data.toList[i]? ≠ some 40) (h2 : s.data.toList[i]? ≠ some 91) (h3 : s.data.toList[i]? ≠ some 46) (h4 : s.data.toList[i]? ≠ some 94) (h5 : s.data.toList[i]? ≠ some 36) {k : Nat} (hr : oneS s.data.toList i = .bad k) :
 Calls Tryz.prog 197 #[.pointer (some ⟨pb,0,none⟩)] w (PS w pb k):=by
 have NO0 : Hid (∀ W,PW w pb s i W → Calls Tryz.prog 149 #[.pointer (some ⟨pb,0,none⟩),.int .u8 40] W (IsNo W)):=h.no (c:=40) h1
 have NO1 : Hid (∀ W,PW w pb s i W → Calls Tryz.prog 149 #[.pointer (some ⟨pb,0,none⟩),.int .u8 91] W (IsNo W)):=h.no (c:=91) h2
 have NO2 : Hid (∀ W,PW w pb s i W → Calls Tryz.prog 149 #[.pointer (some ⟨pb,0,none⟩),.int .u8 46] W (IsNo W)):=h.no (c:=46) h3
 have NO3 : Hid (∀ W,PW w pb s i W → Calls Tryz.prog 149 #[.pointer (some ⟨pb,0,none⟩),.int .u8 94] W (IsNo W)):=h.no (c:=94) h4
 have NO4 : Hid (∀ W,PW w pb s i W → Calls Tryz.prog 149 #[.pointer (some ⟨pb,0,none⟩),.int .u8 36] W (IsNo W)):=h.no (c:=36) h5
 have HI : Hid (∀ W,PW w pb s i W → Calls Tryz.prog 211 #[.pointer (some ⟨pb,0,none⟩)] W (PS W pb k)):=hid fun W hw => (one_c W (h.next hw h.le)).mono fun e w' hh => hh.bad hr
 have HP0:=hid h.pw
 clear h h1 h2 h3 h4 h5 hr
 unfold PS at *
 go_enter Tryz.func197,Tryz.ntmps197
 go_wp2_with fail
 refine (NO0.out _ HP0.out).mono ?_
 rintro e x1 ⟨rfl,hb⟩
 have HP1:=hid (HP0.out.below hb)
 clear hb
 go_wp2_with fail
 refine (NO1.out _ HP1.out).mono ?_
 rintro e x2 ⟨rfl,hb⟩
 have HP2:=hid (HP1.out.below hb)
 clear hb
 go_wp2_with fail
 refine (NO2.out _ HP2.out).mono ?_
 rintro e x3 ⟨rfl,hb⟩
 have HP3:=hid (HP2.out.below hb)
 clear hb
 go_wp2_with fail
 refine (NO3.out _ HP3.out).mono ?_
 rintro e x4 ⟨rfl,hb⟩
 have HP4:=hid (HP3.out.below hb)
 clear hb
 go_wp2_with fail
 refine (NO4.out _ HP4.out).mono ?_
 rintro e x5 ⟨rfl,hb⟩
 have HP5:=hid (HP4.out.below hb)
 clear hb
 go_wp2_with fail
 refine (HI.out _ HP5.out).mono ?_
 rintro e z ⟨rfl,hp⟩
 exact ⟨rfl,rfl,HP5.out.grow.trans hp⟩
theorem atom_one {ev : Value} {pb : Nat} {s : ByteArray} {i : Nat} (w : World) (h : PIn ev pb s i w) (h1 : s.data.toList[i]? ≠ some 40) (h2 : s.data.toList[i]? ≠ some 91) (h3 : s.data.toList[i]? ≠ some 46) (h4 : s.data.toList[i]? ≠ some 94) (h5 : s.data.toList[i]? ≠ some 36) {b j : Nat} (hr : oneS s.data.toList i = .ok b j) :
 Calls Tryz.prog 197 #[.pointer (some ⟨pb,0,none⟩)] w (TreeAt pb s (.byte (withB zc b)) j w):=by
 have NO0 : Hid (∀ W,PW w pb s i W → Calls Tryz.prog 149 #[.pointer (some ⟨pb,0,none⟩),.int .u8 40] W (IsNo W)):=h.no (c:=40) h1
 have NO1 : Hid (∀ W,PW w pb s i W → Calls Tryz.prog 149 #[.pointer (some ⟨pb,0,none⟩),.int .u8 91] W (IsNo W)):=h.no (c:=91) h2
 have NO2 : Hid (∀ W,PW w pb s i W → Calls Tryz.prog 149 #[.pointer (some ⟨pb,0,none⟩),.int .u8 46] W (IsNo W)):=h.no (c:=46) h3
 have NO3 : Hid (∀ W,PW w pb s i W → Calls Tryz.prog 149 #[.pointer (some ⟨pb,0,none⟩),.int .u8 94] W (IsNo W)):=h.no (c:=94) h4
 have NO4 : Hid (∀ W,PW w pb s i W → Calls Tryz.prog 149 #[.pointer (some ⟨pb,0,none⟩),.int .u8 36] W (IsNo W)):=h.no (c:=36) h5
 have HI : Hid (∀ W,PW w pb s i W → Calls Tryz.prog 211 #[.pointer (some ⟨pb,0,none⟩)] W (ByteAt pb s j b W)):=hid fun W hw => (one_c W (h.next hw h.le)).mono fun e w' hh => hh.ok hr
 have hb256:=(oneS_ok hr).2.2
 have hof : ofL (ByteArray.mk #[UInt8.ofNat b]).data.toList zc = withB zc b:=by
  simp [ofL,Nat.mod_eq_of_lt hb256]
 have HC:=hid fun W => Of_any ⟨#[UInt8.ofNat b]⟩ W (by show 1 ≤ _;decide)
 rw [hof] at HC
 unfold ClsIs at HC
 unfold ByteAt at HI
 have hcv:=fun W => convS_byte b hb256 W
 have HP0:=hid h.pw
 clear h h1 h2 h3 h4 h5 hr hof
 unfold TreeAt
 go_enter Tryz.func197,Tryz.ntmps197
 go_wp2_with fail
 refine (NO0.out _ HP0.out).mono ?_
 rintro e x1 ⟨rfl,hb⟩
 have HP1:=hid (HP0.out.below hb)
 clear hb
 go_wp2_with fail
 refine (NO1.out _ HP1.out).mono ?_
 rintro e x2 ⟨rfl,hb⟩
 have HP2:=hid (HP1.out.below hb)
 clear hb
 go_wp2_with fail
 refine (NO2.out _ HP2.out).mono ?_
 rintro e x3 ⟨rfl,hb⟩
 have HP3:=hid (HP2.out.below hb)
 clear hb
 go_wp2_with fail
 refine (NO3.out _ HP3.out).mono ?_
 rintro e x4 ⟨rfl,hb⟩
 have HP4:=hid (HP3.out.below hb)
 clear hb
 go_wp2_with fail
 refine (NO4.out _ HP4.out).mono ?_
 rintro e x5 ⟨rfl,hb⟩
 have HP5:=hid (HP4.out.below hb)
 clear hb
 go_wp2_with fail
 refine (HI.out _ HP5.out).mono ?_
 rintro e z ⟨rfl,hp⟩
 have HZ:=hid (HP5.out.trans hp)
 clear hp
 go_wp2_with fail
 refine (HC.out _).mono ?_
 rintro e z2 ⟨d0,d1,d2,d3,rfl,hd,hb⟩
 have HZ2:=hid ((HZ.out.below ((Below.refl _ _).alloc (Nat.le_refl _) _)).below hb)
 have HD:=hid hd
 clear hd hb
 go_wp2_with fail
 go_ret
 refine ⟨z2.heap.size,1,rfl,?_,HZ2.out.below ((Below.refl _ _).alloc (Nat.le_refl _) _)⟩
 have:=own_node z2 _ rfl w.heap.size HZ2.out.grow.size 1 d0 d1 d2 d3
 rw [HD.out] at this
 exact this
theorem info_nd : (Tryz.prog.info? 114).map (fun i => (i.zero,i.size,i.bytes)) = some (some (.agg #[.int .i64 0,.int .u64 0,.int .u64 0,.int .u64 0,.int .u64 0]),5,40):=by kernel_rfl
theorem nd_parts : ∃ i : TypeInfo,Tryz.prog.info? 114 = some i ∧ i.zero = some (.agg #[.int .i64 0,.int .u64 0,.int .u64 0,.int .u64 0,.int .u64 0]) ∧ i.size = 5 ∧ i.bytes = 40:=by
 have h:=info_nd
 cases hi : Tryz.prog.info? 114 with
 | none => rw [hi] at h;cases h
 | some i =>
   rw [hi] at h
   simp only [Option.map_some,Option.some.injEq,Prod.mk.injEq] at h
   exact ⟨i,rfl,h.1,h.2.1,h.2.2⟩
theorem PW.app {w0 w w' : World} {pb i g : Nat} {s : ByteArray} (h : PW w0 pb s i w) (hg : w.grownBy w' (some g)) (hge : w0.heap.size ≤ g) : PW w0 pb s i w' :=
 ⟨(hg.block pb h.par.lt (fun e => by have:=h.lt;have e2:=Option.some.inj e;omega)).trans h.par,⟨hg.os.trans h.grow.os,hg.tape.trans h.grow.tape,hg.output.trans h.grow.output,Nat.le_trans h.grow.size hg.size,fun q hq hne => (hg.block q (Nat.lt_of_lt_of_le hq h.grow.size) (fun e => by have e2:=Option.some.inj e;omega)).trans (h.grow.block q hq hne)⟩,h.lt⟩
theorem OwnT.cells {w : World} {base g n cap : Nat} {l : List Nd} (h : OwnT w base (.slice (some ⟨g,0,none⟩) n cap) l) (hn : 0 < n) : ∀ (j : Nat) (u : Value),(l.flatMap ndCells)[j]? = some u → w.cell? ((⟨g,0,none⟩ : Addr).add j) = some u:=by
 obtain ⟨A,n',cap',hv,_,_,_,hc⟩:=Rd.of_own h
 injection hv with e1 e2 _
 subst e2
 obtain ⟨b,off,hA,hcc⟩:=hc hn
 rw [hA] at e1
 have e3:=Option.some.inj e1
 injection e3 with e4 e5 _
 intro j u hu
 rw [add_mk,e4,e5]
 exact hcc j u hu
theorem nd_one (l : List Nd) : ∀ u ∈ l.flatMap ndCells,u.oneCell' = true:=by
 intro u hu
 obtain ⟨n,_,hn⟩:=List.mem_flatMap.1 hu
 simp only [ndCells,List.mem_cons,List.not_mem_nil,or_false] at hn
 rcases hn with rfl | rfl | rfl | rfl | rfl <;> rfl
theorem sgnIdx : ∀ b : Fin 256,Lib.indexByte [42,43,63] b.val.toUInt8 = if b.val = 42 then 0 else if b.val = 43 then 1 else if b.val = 63 then 2 else -1:=by decide +kernel
theorem Sign_c (n : Nat) (hn : n < 256) (q : Int) (hq : (if n = 42 then 0 else if n = 43 then 1 else if n = 63 then 2 else -1) = q) : Hid (∀ W,Calls Tryz.prog 170 #[.string ⟨#[42,43,63]⟩,.int .u8 (n : Int)] W (fun e w' => e = .returned (.int .i64 q) ∧ W = w')):=hid fun W => (IndexB_c _ _ W).mono (by
 rintro e w' ⟨rfl,rfl⟩
 refine ⟨?_,rfl⟩
 have h:=sgnIdx ⟨n,hn⟩
 dsimp only at h
 rw [hq] at h
 rw [← h]
 rfl)
theorem node_at (op : Int) (W : World) (B : Nat) (hB : W.heap.size = B) : Calls Tryz.prog 150 #[.int .i64 op] W (fun e w' => e = .returned (.slice (some ⟨B,0,none⟩) 1 1) ∧ OwnT w' B (.slice (some ⟨B,0,none⟩) 1 1) [⟨op,zc⟩] ∧ Below W.heap.size W w'):=by
 subst hB
 exact node_c op W
theorem orS_le {s : ByteArray} {i j : Nat} {t : Rx} (h : orS s.data.toList i = .ok t j) (hi : i ≤ s.size) : j ≤ s.size:=by
 have:=((read_ok _ i (Nat.le_refl _) (by rw [at_end];exact hi)).2.2 t j h).2.1
 rwa [at_end] at this
theorem atom_par {ev : Value} {pb : Nat} {s : ByteArray} {i : Nat} (w : World) (h : PIn ev pb s i w) (hc : s.data.toList[i]? = some 40) {t : Rx} {j : Nat} (hor : (∀ W,PW w pb s (i + 1) W → Calls Tryz.prog 112 #[.pointer (some ⟨pb,0,none⟩)] W (TreeAt pb s t j W))) (hj : s.data.toList[j]? = some 41) :
 Calls Tryz.prog 197 #[.pointer (some ⟨pb,0,none⟩)] w (TreeAt pb s t (j + 1) w):=by
 have YES : Hid (∀ W,PW w pb s i W → Calls Tryz.prog 149 #[.pointer (some ⟨pb,0,none⟩),.int .u8 40] W (IsYes pb s i W)):=h.yes (c:=40) hc
 have HOR:=hid hor
 have hsz:=h.sz
 have Y2 : Hid (∀ W,PW w pb s j W → Calls Tryz.prog 149 #[.pointer (some ⟨pb,0,none⟩),.int .u8 41] W (IsYes pb s j W)):=hid fun W hw => is_yes (c:=41) W hw.here hsz hj
 have HP0:=hid h.pw
 unfold TreeAt at HOR
 clear h hc hor hj
 unfold TreeAt
 go_enter Tryz.func197,Tryz.ntmps197
 go_wp2_with fail
 refine (YES.out _ HP0.out).mono ?_
 rintro e y ⟨rfl,hp⟩
 have HY:=hid (HP0.out.trans hp)
 clear hp
 go_wp2_with fail
 refine (HOR.out _ HY.out).mono ?_
 rintro e z ⟨g,cap,rfl,ho,hp⟩
 have HZ:=hid (HY.out.trans hp)
 have HO:=hid ho
 clear ho hp
 go_wp2_with fail
 refine (Y2.out _ HZ.out).mono ?_
 rintro e u ⟨rfl,hp⟩
 have HU:=hid (HZ.out.trans hp)
 have HO2:=hid (HO.out.grown hp.grow (by have:=HY.out.lt;have:=HY.out.grow.size;omega))
 clear hp
 go_wp2_with fail
 go_ret
 exact ⟨g,cap,rfl,HO2.out.base HY.out.grow.size,HU.out⟩
theorem atom_parno {ev : Value} {pb : Nat} {s : ByteArray} {i : Nat} (w : World) (h : PIn ev pb s i w) (hc : s.data.toList[i]? = some 40) {t : Rx} {j : Nat} (hor : (∀ W,PW w pb s (i + 1) W → Calls Tryz.prog 112 #[.pointer (some ⟨pb,0,none⟩)] W (TreeAt pb s t j W))) (hjs : j ≤ s.size) (hj : s.data.toList[j]? ≠ some 41) :
 Calls Tryz.prog 197 #[.pointer (some ⟨pb,0,none⟩)] w (PS w pb j):=by
 have YES : Hid (∀ W,PW w pb s i W → Calls Tryz.prog 149 #[.pointer (some ⟨pb,0,none⟩),.int .u8 40] W (IsYes pb s i W)):=h.yes (c:=40) hc
 have HOR:=hid hor
 have hsz:=h.sz
 have N2 : Hid (∀ W,PW w pb s j W → Calls Tryz.prog 149 #[.pointer (some ⟨pb,0,none⟩),.int .u8 41] W (IsNo W)):=hid fun W hw => is_no (c:=41) W hw.here hsz hjs hj
 have HP0:=hid h.pw
 unfold TreeAt at HOR
 clear h hc hor hj
 unfold PS stopV
 go_enter Tryz.func197,Tryz.ntmps197
 go_wp2_with fail
 refine (YES.out _ HP0.out).mono ?_
 rintro e y ⟨rfl,hp⟩
 have HY:=hid (HP0.out.trans hp)
 clear hp
 go_wp2_with fail
 refine (HOR.out _ HY.out).mono ?_
 rintro e z ⟨g,cap,rfl,ho,hp⟩
 have HZ:=hid (HY.out.trans hp)
 clear ho hp
 go_wp2_with fail
 refine (N2.out _ HZ.out).mono ?_
 rintro e u ⟨rfl,hb⟩
 have HU:=hid (HZ.out.below hb)
 have c1:=HU.out.c1
 clear hb
 go_wp2_with fail
 exact ⟨rfl,rfl,HU.out.grow⟩
theorem atom_parbad {ev : Value} {pb : Nat} {s : ByteArray} {i : Nat} (w : World) (h : PIn ev pb s i w) (hc : s.data.toList[i]? = some 40) {k : Nat} (hor : (∀ W,PW w pb s (i + 1) W → Calls Tryz.prog 112 #[.pointer (some ⟨pb,0,none⟩)] W (PS W pb k))) :
 Calls Tryz.prog 197 #[.pointer (some ⟨pb,0,none⟩)] w (PS w pb k):=by
 have YES : Hid (∀ W,PW w pb s i W → Calls Tryz.prog 149 #[.pointer (some ⟨pb,0,none⟩),.int .u8 40] W (IsYes pb s i W)):=h.yes (c:=40) hc
 have HOR:=hid hor
 have HP0:=hid h.pw
 clear h hc hor
 unfold PS at *
 go_enter Tryz.func197,Tryz.ntmps197
 go_wp2_with fail
 refine (YES.out _ HP0.out).mono ?_
 rintro e y ⟨rfl,hp⟩
 have HY:=hid (HP0.out.trans hp)
 clear hp
 go_wp2_with fail
 refine (HOR.out _ HY.out).mono ?_
 rintro e z ⟨rfl,hp⟩
 exact ⟨rfl,rfl,HY.out.grow.trans hp⟩
theorem atom_c {ev : Value} {pb : Nat} {s : ByteArray} {i : Nat} (w : World) (h : PIn ev pb s i w) (hor : s.data.toList[i]? = some 40 → ∀ W,PW w pb s (i + 1) W → Calls Tryz.prog 112 #[.pointer (some ⟨pb,0,none⟩)] W (RdT (orS s.data.toList (i + 1)) pb s W)) :
 Calls Tryz.prog 197 #[.pointer (some ⟨pb,0,none⟩)] w (RdT (atomS s.data.toList i) pb s w):=by
 have good : ∀ t j,atomS s.data.toList i = .ok t j → Calls Tryz.prog 197 #[.pointer (some ⟨pb,0,none⟩)] w (TreeAt pb s t j w) → Calls Tryz.prog 197 #[.pointer (some ⟨pb,0,none⟩)] w (RdT (atomS s.data.toList i) pb s w):=fun t j h1 h2 => h2.mono fun e w' hh => .inl ⟨t,j,h1,hh⟩
 have bad : ∀ k,atomS s.data.toList i = .bad k → Calls Tryz.prog 197 #[.pointer (some ⟨pb,0,none⟩)] w (PS w pb k) → Calls Tryz.prog 197 #[.pointer (some ⟨pb,0,none⟩)] w (RdT (atomS s.data.toList i) pb s w):=fun k h1 h2 => h2.mono fun e w' hh => .inr ⟨k,h1,hh⟩
 by_cases h1 : s.data.toList[i]? = some 40
 ·have hi2:=getE_lt h1
  rw [at_end] at hi2
  have ho:=hor h1
  cases hO : orS s.data.toList (i + 1) with
  | bad k => exact bad k (by rw [atomS_at h1,if_pos rfl,hO]) (atom_parbad w h h1 (fun W hw => (ho W hw).mono fun e w' hh => hh.bad hO))
  | ok t j =>
    have hjs:=orS_le hO (by omega)
    by_cases hj : s.data.toList[j]? = some 41
    ·exact good t (j + 1) (by rw [atomS_at h1,if_pos rfl,hO];simp only [if_pos hj]) (atom_par w h h1 (fun W hw => (ho W hw).mono fun e w' hh => hh.ok hO) hj)
    ·exact bad j (by rw [atomS_at h1,if_pos rfl,hO];simp only [if_neg hj]) (atom_parno w h h1 (fun W hw => (ho W hw).mono fun e w' hh => hh.ok hO) hjs hj)
 ·by_cases h2 : s.data.toList[i]? = some 91
  ·cases hB : bracketS s.data.toList (i + 1) with
   | bad k => exact bad k (by rw [atomS_at h2,if_neg (by decide),if_pos rfl,hB]) (atom_clsbad w h h2 hB)
   | ok c j => exact good (.byte c) j (by rw [atomS_at h2,if_neg (by decide),if_pos rfl,hB]) (atom_cls w h h2 hB)
  ·by_cases h3 : s.data.toList[i]? = some 46
   ·exact good (.byte dotC) (i + 1) (by rw [atomS_at h3,if_neg (by decide),if_neg (by decide),if_pos rfl]) (atom_dot w h h3)
   ·by_cases h4 : s.data.toList[i]? = some 94
    ·exact good .bgn (i + 1) (by rw [atomS_at h4,if_neg (by decide),if_neg (by decide),if_neg (by decide),if_pos rfl]) (atom_bgn w h h4)
    ·by_cases h5 : s.data.toList[i]? = some 36
     ·exact good .fin (i + 1) (by rw [atomS_at h5,if_neg (by decide),if_neg (by decide),if_neg (by decide),if_neg (by decide),if_pos rfl]) (atom_fin w h h5)
     ·cases hO : oneS s.data.toList i with
      | bad k => exact bad k (by rw [atomS_one h1 h2 h3 h4 h5,hO]) (atom_onebad w h h1 h2 h3 h4 h5 hO)
      | ok b j => exact good (.byte (withB zc b)) j (by rw [atomS_one h1 h2 h3 h4 h5,hO]) (atom_one w h h1 h2 h3 h4 h5 hO)
theorem often_bad {ev : Value} {pb : Nat} {s : ByteArray} {i : Nat} (w : World) (h : PIn ev pb s i w) {k : Nat} (hat : Calls Tryz.prog 197 #[.pointer (some ⟨pb,0,none⟩)] w (PS w pb k)) :
 Calls Tryz.prog 176 #[.pointer (some ⟨pb,0,none⟩)] w (PS w pb k):=by
 have HAT:=hid hat
 clear h hat
 unfold PS at *
 go_enter Tryz.func176,Tryz.ntmps176
 go_wp2_with fail
 refine HAT.out.mono ?_
 rintro e z ⟨rfl,hp⟩
 exact ⟨rfl,rfl,hp⟩
theorem often_ok {ev : Value} {pb : Nat} {s : ByteArray} {i : Nat} (w : World) (h : PIn ev pb s i w) {t : Rx} {j : Nat} (hjs : j ≤ s.size) (hfl : (flat t).length ≤ 2 * j) (hat : Calls Tryz.prog 197 #[.pointer (some ⟨pb,0,none⟩)] w (TreeAt pb s t j w)) :
 Calls Tryz.prog 176 #[.pointer (some ⟨pb,0,none⟩)] w (fun e w' => ∃ tg jg,signsS s.data.toList j t = (tg,jg) ∧ TreeAt pb s tg jg w e w'):=by
 obtain ⟨i0,hi0,hz0,hz1,hz2⟩:=nd_parts
 have HAT:=hid hat
 have hsz:=h.sz
 have hpb:=h.pw.lt
 have hpos0:=flat_pos t
 unfold TreeAt at *
 obtain ⟨N0,hN0⟩ : ∃ N0,N0 = (flat t).length:=⟨_,rfl⟩
 rw [← hN0] at HAT hfl hpos0
 have HN0:=hid hN0
 clear h hat hN0
 go_enter Tryz.func176,Tryz.ntmps176
 go_wp2_with fail
 refine HAT.out.mono ?_
 rintro e w1 ⟨g1,cap1,rfl,ho1,hp1⟩
 have HO1:=hid ho1
 have HP1:=hid hp1
 clear ho1 hp1 HAT
 go_wp2_with fail
 go_loopg [3] (s.size + 1) (fun gk v3 wr => ∃ (tg : Rx) (jg g cap N : Nat),jg ≤ s.size ∧ v3 = .slice (some ⟨g,0,none⟩) N cap ∧ N ≤ 2 * jg ∧ 0 < N ∧ Hid (N = (flat tg).length) ∧ Hid (OwnT wr w.heap.size (.slice (some ⟨g,0,none⟩) N cap) (flat tg)) ∧ Hid (PW w pb s jg wr) ∧ Hid (signsS s.data.toList j t = signsS s.data.toList jg tg) ∧ Hid (s.size - jg < gk))
 case atStart => exact ⟨t,j,g1,cap1,N0,hjs,rfl,hfl,hpos0,HN0,HO1,HP1,hid rfl,hid (by omega)⟩
 case round =>
  clear HO1 HP1 HN0
  obtain ⟨tg,jg,g,cap,N,hjg,rfl,hNj,hpos,HN,HOW,HPW,HEQ,HG⟩:=hrel
  have hg0 : 0 < gk:=by have:=HG.out;omega
  cases hg : s.data.toList[jg]? with
  | none =>
    have HPK : Hid (∀ W,PW w pb s jg W → Calls Tryz.prog 175 #[.pointer (some ⟨pb,0,none⟩)] W (PeekIs 0 false W)):=hid fun W hw => peek_none W hw.here hsz hjg hg
    have HIX:=Sign_c 0 (by decide) (-1) (by decide)
    have HSG : Hid (signsS s.data.toList j t = (tg,jg)):=hid (by rw [HEQ.out,signsS_end tg (fun c hc => by rw [hg] at hc;cases hc)])
    unfold PeekIs at HPK
    clear hg HEQ
    go_wp2_with fail
    refine (HPK.out _ HPW.out).mono ?_
    rintro e x1 ⟨rfl,hb1⟩
    have HP1:=hid (HPW.out.below hb1)
    have HO1:=hid (HOW.out.below hb1)
    clear hb1
    go_wp2_with fail
    refine (HIX.out _).mono ?_
    rintro e x2 ⟨rfl,rfl⟩
    go_wp2_with fail
    go_ret
    refine ⟨tg,jg,HSG.out,g,cap,by rw [← HN.out];rfl,?_,HP1.out⟩
    rw [← HN.out]
    exact HO1.out
  | some c =>
    by_cases h42 : c = 42
    ·subst h42
     have HPK : Hid (∀ W,PW w pb s jg W → Calls Tryz.prog 175 #[.pointer (some ⟨pb,0,none⟩)] W (PeekIs 42 true W)):=hid fun W hw => peek_some W hw.here hsz hg
     have HIX:=Sign_c 42 (by decide) 0 (by decide)
     have HND:=hid fun W B hB => node_at 5 W B hB
     have hj2:=getE_lt hg
     rw [at_end] at hj2
     have HSG : Hid (signsS s.data.toList j t = signsS s.data.toList (jg + 1) (.star tg)):=hid (by rw [HEQ.out,signsS_star _ hg])
     unfold PeekIs at HPK
     clear hg HEQ
     go_wp2_with fail
     refine (HPK.out _ HPW.out).mono ?_
     rintro e x1 ⟨rfl,hb1⟩
     have HP1:=hid (HPW.out.below hb1)
     have HO1:=hid (HOW.out.below hb1)
     clear hb1
     have c1:=HP1.out.c1
     have f1:=HP1.out.f1
     go_wp2_with fail
     refine (HIX.out _).mono ?_
     rintro e x2 ⟨rfl,rfl⟩
     have hp2 : PW x1 pb s (jg + 1) (x1.setCell ⟨pb,1,none⟩ (.int .i64 ((jg : Int) + 1))):=by have:=HP1.out.here.one (jg + 1);push_cast at this;exact this
     have HP2:=hid hp2
     have HO2:=hid (HO1.out.grown hp2.grow hpb)
     clear hp2
     go_wp2_with fail
     refine (HND.out _ x1.heap.size (by simp)).mono ?_
     rintro e x3 ⟨rfl,ho3,hb3⟩
     have HP3:=hid ((HP1.out.trans HP2.out).below hb3)
     have HO3:=hid (HO2.out.below hb3)
     have hx1:=HP1.out.grow.size
     have HN3:=hid (ho3.base hx1)
     have hx3:=HP3.out.grow.size
     have HCS:=hid (HO3.out.cells hpos)
     have HNL : Hid (((flat tg).flatMap ndCells).length = N * 5):=hid (by rw [flatMap_len,HN.out])
     have HON:=hid (nd_one (flat tg))
     clear ho3 hb3
     go_wp2_with (at_builtin;refine wpList_append_lies _ rfl (.tmp 32) (.tmp 33) _ rfl w.heap.size 114 i0 _ 5 40 Tryz.underlying73 hi0 hz0 hz1 hz2 rfl (by omega) _ 1 _ rfl HN3.out ⟨g,0,none⟩ N _ ((flat tg).flatMap ndCells) rfl HNL.out HCS.out HON.out hpos (by unfold maxLen;omega) (by omega) hx3 _ rfl ?_)
     intro g4 cap4 x4 hown4 hgrow4 _ _
     have HP4:=hid (HP3.out.app hgrow4 hx1)
     have HO4 : Hid (OwnT x4 w.heap.size (.slice (some ⟨g4,0,none⟩) (1 + N) cap4) (flat (.star tg))):=hid (by
      unfold OwnT
      have e : (flat (.star tg)).length = 1 + N:=by show (flat tg).length + 1 = _;rw [← HN.out];omega
      rw [e]
      exact hown4)
     have HN4 : Hid (1 + N = (flat (.star tg)).length):=hid (by show _ = (flat tg).length + 1;rw [← HN.out];omega)
     clear hown4 hgrow4
     go_wp2_with fail
     go_roundg (gk - 1)
     case rel => exact ⟨.star tg,jg + 1,g4,cap4,1 + N,by omega,rfl,by omega,by omega,HN4,HO4,HP4,HSG,hid (by have:=HG.out;omega)⟩
     all_goals (first | (have:=HG.out;omega) | omega)
    ·by_cases h43 : c = 43
     ·subst h43
      have HPK : Hid (∀ W,PW w pb s jg W → Calls Tryz.prog 175 #[.pointer (some ⟨pb,0,none⟩)] W (PeekIs 43 true W)):=hid fun W hw => peek_some W hw.here hsz hg
      have HIX:=Sign_c 43 (by decide) 1 (by decide)
      have HND:=hid fun W B hB => node_at 6 W B hB
      have hj2:=getE_lt hg
      rw [at_end] at hj2
      have HSG : Hid (signsS s.data.toList j t = signsS s.data.toList (jg + 1) (.plus tg)):=hid (by rw [HEQ.out,signsS_plus _ hg])
      unfold PeekIs at HPK
      clear hg HEQ
      go_wp2_with fail
      refine (HPK.out _ HPW.out).mono ?_
      rintro e x1 ⟨rfl,hb1⟩
      have HP1:=hid (HPW.out.below hb1)
      have HO1:=hid (HOW.out.below hb1)
      clear hb1
      have c1:=HP1.out.c1
      have f1:=HP1.out.f1
      go_wp2_with fail
      refine (HIX.out _).mono ?_
      rintro e x2 ⟨rfl,rfl⟩
      have hp2 : PW x1 pb s (jg + 1) (x1.setCell ⟨pb,1,none⟩ (.int .i64 ((jg : Int) + 1))):=by have:=HP1.out.here.one (jg + 1);push_cast at this;exact this
      have HP2:=hid hp2
      have HO2:=hid (HO1.out.grown hp2.grow hpb)
      clear hp2
      go_wp2_with fail
      refine (HND.out _ x1.heap.size (by simp)).mono ?_
      rintro e x3 ⟨rfl,ho3,hb3⟩
      have HP3:=hid ((HP1.out.trans HP2.out).below hb3)
      have HO3:=hid (HO2.out.below hb3)
      have hx1:=HP1.out.grow.size
      have HN3:=hid (ho3.base hx1)
      have hx3:=HP3.out.grow.size
      have HCS:=hid (HO3.out.cells hpos)
      have HNL : Hid (((flat tg).flatMap ndCells).length = N * 5):=hid (by rw [flatMap_len,HN.out])
      have HON:=hid (nd_one (flat tg))
      clear ho3 hb3
      go_wp2_with (at_builtin;refine wpList_append_lies _ rfl (.tmp 32) (.tmp 33) _ rfl w.heap.size 114 i0 _ 5 40 Tryz.underlying73 hi0 hz0 hz1 hz2 rfl (by omega) _ 1 _ rfl HN3.out ⟨g,0,none⟩ N _ ((flat tg).flatMap ndCells) rfl HNL.out HCS.out HON.out hpos (by unfold maxLen;omega) (by omega) hx3 _ rfl ?_)
      intro g4 cap4 x4 hown4 hgrow4 _ _
      have HP4:=hid (HP3.out.app hgrow4 hx1)
      have HO4 : Hid (OwnT x4 w.heap.size (.slice (some ⟨g4,0,none⟩) (1 + N) cap4) (flat (.plus tg))):=hid (by
       unfold OwnT
       have e : (flat (.plus tg)).length = 1 + N:=by show (flat tg).length + 1 = _;rw [← HN.out];omega
       rw [e]
       exact hown4)
      have HN4 : Hid (1 + N = (flat (.plus tg)).length):=hid (by show _ = (flat tg).length + 1;rw [← HN.out];omega)
      clear hown4 hgrow4
      go_wp2_with fail
      go_roundg (gk - 1)
      case rel => exact ⟨.plus tg,jg + 1,g4,cap4,1 + N,by omega,rfl,by omega,by omega,HN4,HO4,HP4,HSG,hid (by have:=HG.out;omega)⟩
      all_goals (first | (have:=HG.out;omega) | omega)
     ·by_cases h63 : c = 63
      ·subst h63
       have HPK : Hid (∀ W,PW w pb s jg W → Calls Tryz.prog 175 #[.pointer (some ⟨pb,0,none⟩)] W (PeekIs 63 true W)):=hid fun W hw => peek_some W hw.here hsz hg
       have HIX:=Sign_c 63 (by decide) 2 (by decide)
       have HND:=hid fun W B hB => node_at 7 W B hB
       have hj2:=getE_lt hg
       rw [at_end] at hj2
       have HSG : Hid (signsS s.data.toList j t = signsS s.data.toList (jg + 1) (.opt tg)):=hid (by rw [HEQ.out,signsS_opt _ hg])
       unfold PeekIs at HPK
       clear hg HEQ
       go_wp2_with fail
       refine (HPK.out _ HPW.out).mono ?_
       rintro e x1 ⟨rfl,hb1⟩
       have HP1:=hid (HPW.out.below hb1)
       have HO1:=hid (HOW.out.below hb1)
       clear hb1
       have c1:=HP1.out.c1
       have f1:=HP1.out.f1
       go_wp2_with fail
       refine (HIX.out _).mono ?_
       rintro e x2 ⟨rfl,rfl⟩
       have hp2 : PW x1 pb s (jg + 1) (x1.setCell ⟨pb,1,none⟩ (.int .i64 ((jg : Int) + 1))):=by have:=HP1.out.here.one (jg + 1);push_cast at this;exact this
       have HP2:=hid hp2
       have HO2:=hid (HO1.out.grown hp2.grow hpb)
       clear hp2
       go_wp2_with fail
       refine (HND.out _ x1.heap.size (by simp)).mono ?_
       rintro e x3 ⟨rfl,ho3,hb3⟩
       have HP3:=hid ((HP1.out.trans HP2.out).below hb3)
       have HO3:=hid (HO2.out.below hb3)
       have hx1:=HP1.out.grow.size
       have HN3:=hid (ho3.base hx1)
       have hx3:=HP3.out.grow.size
       have HCS:=hid (HO3.out.cells hpos)
       have HNL : Hid (((flat tg).flatMap ndCells).length = N * 5):=hid (by rw [flatMap_len,HN.out])
       have HON:=hid (nd_one (flat tg))
       clear ho3 hb3
       go_wp2_with (at_builtin;refine wpList_append_lies _ rfl (.tmp 32) (.tmp 33) _ rfl w.heap.size 114 i0 _ 5 40 Tryz.underlying73 hi0 hz0 hz1 hz2 rfl (by omega) _ 1 _ rfl HN3.out ⟨g,0,none⟩ N _ ((flat tg).flatMap ndCells) rfl HNL.out HCS.out HON.out hpos (by unfold maxLen;omega) (by omega) hx3 _ rfl ?_)
       intro g4 cap4 x4 hown4 hgrow4 _ _
       have HP4:=hid (HP3.out.app hgrow4 hx1)
       have HO4 : Hid (OwnT x4 w.heap.size (.slice (some ⟨g4,0,none⟩) (1 + N) cap4) (flat (.opt tg))):=hid (by
        unfold OwnT
        have e : (flat (.opt tg)).length = 1 + N:=by show (flat tg).length + 1 = _;rw [← HN.out];omega
        rw [e]
        exact hown4)
       have HN4 : Hid (1 + N = (flat (.opt tg)).length):=hid (by show _ = (flat tg).length + 1;rw [← HN.out];omega)
       clear hown4 hgrow4
       go_wp2_with fail
       go_roundg (gk - 1)
       case rel => exact ⟨.opt tg,jg + 1,g4,cap4,1 + N,by omega,rfl,by omega,by omega,HN4,HO4,HP4,HSG,hid (by have:=HG.out;omega)⟩
       all_goals (first | (have:=HG.out;omega) | omega)
      ·have n1 : c.toNat ≠ 42:=fun e => h42 (UInt8.toNat_inj.1 e)
       have n2 : c.toNat ≠ 43:=fun e => h43 (UInt8.toNat_inj.1 e)
       have n3 : c.toNat ≠ 63:=fun e => h63 (UInt8.toNat_inj.1 e)
       have HPK : Hid (∀ W,PW w pb s jg W → Calls Tryz.prog 175 #[.pointer (some ⟨pb,0,none⟩)] W (PeekIs c.toNat true W)):=hid fun W hw => peek_some W hw.here hsz hg
       have HIX:=Sign_c c.toNat c.toNat_lt (-1) (by rw [if_neg n1,if_neg n2,if_neg n3])
       have HSG : Hid (signsS s.data.toList j t = (tg,jg)):=hid (by rw [HEQ.out,signsS_end tg (fun d hd => by rw [hg] at hd;cases hd;exact ⟨h42,h43,h63⟩)])
       unfold PeekIs at HPK
       clear hg HEQ
       go_wp2_with fail
       refine (HPK.out _ HPW.out).mono ?_
       rintro e x1 ⟨rfl,hb1⟩
       have HP1:=hid (HPW.out.below hb1)
       have HO1:=hid (HOW.out.below hb1)
       clear hb1
       go_wp2_with fail
       refine (HIX.out _).mono ?_
       rintro e x2 ⟨rfl,rfl⟩
       go_wp2_with fail
       go_ret
       refine ⟨tg,jg,HSG.out,g,cap,by rw [← HN.out];rfl,?_,HP1.out⟩
       rw [← HN.out]
       exact HO1.out
theorem int_ne {a b : Int} (h : a ≠ b) : (a == b) = false:=by simpa using h
theorem stop_yes {s : List UInt8} {j : Nat} (h : stopS s j = true) : s[j]? = none ∨ s[j]? = some 124 ∨ s[j]? = some 41:=by
 unfold stopS at h
 cases hc : s[j]? with
 | none => exact .inl rfl
 | some c =>
   rw [hc] at h
   simp only [Bool.or_eq_true,beq_iff_eq] at h
   rcases h with rfl | rfl
   ·exact .inr (.inl rfl)
   ·exact .inr (.inr rfl)
theorem stop_no {s : List UInt8} {j : Nat} (h : ¬ stopS s j = true) : ∃ c,s[j]? = some c ∧ c.toNat ≠ 124 ∧ c.toNat ≠ 41:=by
 unfold stopS at h
 cases hc : s[j]? with
 | none => rw [hc] at h;exact absurd rfl h
 | some c =>
   rw [hc] at h
   simp only [Bool.or_eq_true,beq_iff_eq,not_or] at h
   exact ⟨c,rfl,fun e => h.1 (UInt8.toNat_inj.1 e),fun e => h.2 (UInt8.toNat_inj.1 e)⟩
theorem cat_stop {ev : Value} {pb : Nat} {s : ByteArray} {i : Nat} (w : World) (h : PIn ev pb s i w) (hst : stopS s.data.toList i = true) :
 Calls Tryz.prog 148 #[.pointer (some ⟨pb,0,none⟩)] w (TreeAt pb s .empty i w):=by
 have HP0:=hid h.pw
 have hsz:=h.sz
 have hle:=h.le
 have HND:=hid fun W B hB => node_at 2 W B hB
 unfold TreeAt
 rcases stop_yes hst with hg | hg | hg
 ·have PK1 : Hid (∀ W,PW w pb s i W → Calls Tryz.prog 175 #[.pointer (some ⟨pb,0,none⟩)] W (PeekIs 0 false W)):=hid fun W hw => peek_none W hw.here hsz hle hg
  unfold PeekIs at PK1
  clear h hst hg
  go_enter Tryz.func148,Tryz.ntmps148
  go_wp2_with fail
  refine (PK1.out _ HP0.out).mono ?_
  rintro e x1 ⟨rfl,hb1⟩
  have HP1:=hid (HP0.out.below hb1)
  clear hb1
  go_wp2_with fail
  refine (HND.out _ x1.heap.size rfl).mono ?_
  rintro e x2 ⟨rfl,ho,hb⟩
  have HP2:=hid (HP1.out.below hb)
  have HO:=hid ho
  clear ho hb
  go_wp2_with fail
  go_ret
  exact ⟨_,_,rfl,HO.out.base HP1.out.grow.size,HP2.out⟩
 ·have PK1 : Hid (∀ W,PW w pb s i W → Calls Tryz.prog 175 #[.pointer (some ⟨pb,0,none⟩)] W (PeekIs 124 true W)):=hid fun W hw => peek_some W hw.here hsz hg
  unfold PeekIs at PK1
  clear h hst hg
  go_enter Tryz.func148,Tryz.ntmps148
  go_wp2_with fail
  refine (PK1.out _ HP0.out).mono ?_
  rintro e x1 ⟨rfl,hb1⟩
  have HP1:=hid (HP0.out.below hb1)
  clear hb1
  go_wp2_with fail
  refine (HND.out _ x1.heap.size rfl).mono ?_
  rintro e x2 ⟨rfl,ho,hb⟩
  have HP2:=hid (HP1.out.below hb)
  have HO:=hid ho
  clear ho hb
  go_wp2_with fail
  go_ret
  exact ⟨_,_,rfl,HO.out.base HP1.out.grow.size,HP2.out⟩
 ·have PK1 : Hid (∀ W,PW w pb s i W → Calls Tryz.prog 175 #[.pointer (some ⟨pb,0,none⟩)] W (PeekIs 41 true W)):=hid fun W hw => peek_some W hw.here hsz hg
  unfold PeekIs at PK1
  clear h hst hg
  go_enter Tryz.func148,Tryz.ntmps148
  go_wp2_with fail
  refine (PK1.out _ HP0.out).mono ?_
  rintro e x1 ⟨rfl,hb1⟩
  have HP1:=hid (HP0.out.below hb1)
  clear hb1
  go_wp2_with fail
  refine (HND.out _ x1.heap.size rfl).mono ?_
  rintro e x2 ⟨rfl,ho,hb⟩
  have HP2:=hid (HP1.out.below hb)
  have HO:=hid ho
  clear ho hb
  go_wp2_with fail
  go_ret
  exact ⟨_,_,rfl,HO.out.base HP1.out.grow.size,HP2.out⟩
theorem cat_bad {ev : Value} {pb : Nat} {s : ByteArray} {i : Nat} (w : World) (h : PIn ev pb s i w) (hst : ¬ stopS s.data.toList i = true) {k : Nat} (hof : ∀ W,PW w pb s i W → Calls Tryz.prog 176 #[.pointer (some ⟨pb,0,none⟩)] W (PS W pb k)) :
 Calls Tryz.prog 148 #[.pointer (some ⟨pb,0,none⟩)] w (PS w pb k):=by
 obtain ⟨c,hgc,c1,c2⟩:=stop_no hst
 have PK1 : Hid (∀ W,PW w pb s i W → Calls Tryz.prog 175 #[.pointer (some ⟨pb,0,none⟩)] W (PeekIs c.toNat true W)):=hid fun W hw => peek_some W hw.here h.sz hgc
 have d1 : ((c.toNat : Int) == 124) = false:=int_ne (by omega)
 have d2 : ((c.toNat : Int) == 41) = false:=int_ne (by omega)
 have HP0:=hid h.pw
 unfold PeekIs at PK1
 have HOF:=hid hof
 clear h hst hgc hof
 unfold PS at *
 go_enter Tryz.func148,Tryz.ntmps148
 go_wp2_with fail
 refine (PK1.out _ HP0.out).mono ?_
 rintro e x1 ⟨rfl,hb1⟩
 have HP1:=hid (HP0.out.below hb1)
 clear hb1
 go_wp2_with fail
 refine (HOF.out _ HP1.out).mono ?_
 rintro e x2 ⟨rfl,hp⟩
 exact ⟨rfl,rfl,HP1.out.grow.trans hp⟩
theorem cat_one {ev : Value} {pb : Nat} {s : ByteArray} {i : Nat} (w : World) (h : PIn ev pb s i w) (hst : ¬ stopS s.data.toList i = true) {t : Rx} {j : Nat} (hjs : j ≤ s.size) (hst2 : stopS s.data.toList j = true) (hof : ∀ W,PW w pb s i W → Calls Tryz.prog 176 #[.pointer (some ⟨pb,0,none⟩)] W (TreeAt pb s t j W)) :
 Calls Tryz.prog 148 #[.pointer (some ⟨pb,0,none⟩)] w (TreeAt pb s t j w):=by
 obtain ⟨c,hgc,c1,c2⟩:=stop_no hst
 have PK1 : Hid (∀ W,PW w pb s i W → Calls Tryz.prog 175 #[.pointer (some ⟨pb,0,none⟩)] W (PeekIs c.toNat true W)):=hid fun W hw => peek_some W hw.here h.sz hgc
 have d1 : ((c.toNat : Int) == 124) = false:=int_ne (by omega)
 have d2 : ((c.toNat : Int) == 41) = false:=int_ne (by omega)
 have HP0:=hid h.pw
 unfold PeekIs at PK1
 have HOF:=hid hof
 have hsz:=h.sz
 unfold TreeAt at *
 rcases stop_yes hst2 with hg | hg | hg
 ·have PK2 : Hid (∀ W,PW w pb s j W → Calls Tryz.prog 175 #[.pointer (some ⟨pb,0,none⟩)] W (PeekIs 0 false W)):=hid fun W hw => peek_none W hw.here hsz hjs hg
  unfold PeekIs at PK2
  clear h hst hst2 hgc hof hg
  go_enter Tryz.func148,Tryz.ntmps148
  go_wp2_with fail
  refine (PK1.out _ HP0.out).mono ?_
  rintro e x1 ⟨rfl,hb1⟩
  have HP1:=hid (HP0.out.below hb1)
  clear hb1
  go_wp2_with fail
  refine (HOF.out _ HP1.out).mono ?_
  rintro e x2 ⟨g,cap,rfl,ho,hp⟩
  have HP2:=hid (HP1.out.trans hp)
  have HO2:=hid (ho.base HP1.out.grow.size)
  clear ho hp
  go_wp2_with fail
  refine (PK2.out _ HP2.out).mono ?_
  rintro e x3 ⟨rfl,hb3⟩
  have HP3:=hid (HP2.out.below hb3)
  have HO3:=hid (HO2.out.below hb3)
  clear hb3
  go_wp2_with fail
  go_ret
  exact ⟨g,cap,rfl,HO3.out,HP3.out⟩
 ·have PK2 : Hid (∀ W,PW w pb s j W → Calls Tryz.prog 175 #[.pointer (some ⟨pb,0,none⟩)] W (PeekIs 124 true W)):=hid fun W hw => peek_some W hw.here hsz hg
  unfold PeekIs at PK2
  clear h hst hst2 hgc hof hg
  go_enter Tryz.func148,Tryz.ntmps148
  go_wp2_with fail
  refine (PK1.out _ HP0.out).mono ?_
  rintro e x1 ⟨rfl,hb1⟩
  have HP1:=hid (HP0.out.below hb1)
  clear hb1
  go_wp2_with fail
  refine (HOF.out _ HP1.out).mono ?_
  rintro e x2 ⟨g,cap,rfl,ho,hp⟩
  have HP2:=hid (HP1.out.trans hp)
  have HO2:=hid (ho.base HP1.out.grow.size)
  clear ho hp
  go_wp2_with fail
  refine (PK2.out _ HP2.out).mono ?_
  rintro e x3 ⟨rfl,hb3⟩
  have HP3:=hid (HP2.out.below hb3)
  have HO3:=hid (HO2.out.below hb3)
  clear hb3
  go_wp2_with fail
  go_ret
  exact ⟨g,cap,rfl,HO3.out,HP3.out⟩
 ·have PK2 : Hid (∀ W,PW w pb s j W → Calls Tryz.prog 175 #[.pointer (some ⟨pb,0,none⟩)] W (PeekIs 41 true W)):=hid fun W hw => peek_some W hw.here hsz hg
  unfold PeekIs at PK2
  clear h hst hst2 hgc hof hg
  go_enter Tryz.func148,Tryz.ntmps148
  go_wp2_with fail
  refine (PK1.out _ HP0.out).mono ?_
  rintro e x1 ⟨rfl,hb1⟩
  have HP1:=hid (HP0.out.below hb1)
  clear hb1
  go_wp2_with fail
  refine (HOF.out _ HP1.out).mono ?_
  rintro e x2 ⟨g,cap,rfl,ho,hp⟩
  have HP2:=hid (HP1.out.trans hp)
  have HO2:=hid (ho.base HP1.out.grow.size)
  clear ho hp
  go_wp2_with fail
  refine (PK2.out _ HP2.out).mono ?_
  rintro e x3 ⟨rfl,hb3⟩
  have HP3:=hid (HP2.out.below hb3)
  have HO3:=hid (HO2.out.below hb3)
  clear hb3
  go_wp2_with fail
  go_ret
  exact ⟨g,cap,rfl,HO3.out,HP3.out⟩
theorem cat_two {ev : Value} {pb : Nat} {s : ByteArray} {i : Nat} (w : World) (h : PIn ev pb s i w) (hst : ¬ stopS s.data.toList i = true) {t u : Rx} {j k : Nat} (hst2 : ¬ stopS s.data.toList j = true) (hfl : (flat t).length ≤ 400) (hfl2 : (flat u).length ≤ 1000) (hof : ∀ W,PW w pb s i W → Calls Tryz.prog 176 #[.pointer (some ⟨pb,0,none⟩)] W (TreeAt pb s t j W)) (hct : ∀ W,PW w pb s j W → Calls Tryz.prog 148 #[.pointer (some ⟨pb,0,none⟩)] W (TreeAt pb s u k W)) :
 Calls Tryz.prog 148 #[.pointer (some ⟨pb,0,none⟩)] w (TreeAt pb s (.cat t u) k w):=by
 obtain ⟨c,hgc,c1,c2⟩:=stop_no hst
 have PK1 : Hid (∀ W,PW w pb s i W → Calls Tryz.prog 175 #[.pointer (some ⟨pb,0,none⟩)] W (PeekIs c.toNat true W)):=hid fun W hw => peek_some W hw.here h.sz hgc
 have d1 : ((c.toNat : Int) == 124) = false:=int_ne (by omega)
 have d2 : ((c.toNat : Int) == 41) = false:=int_ne (by omega)
 have HP0:=hid h.pw
 unfold PeekIs at PK1
 have hsz:=h.sz
 obtain ⟨c',hgc',c1',c2'⟩:=stop_no hst2
 have PK2 : Hid (∀ W,PW w pb s j W → Calls Tryz.prog 175 #[.pointer (some ⟨pb,0,none⟩)] W (PeekIs c'.toNat true W)):=hid fun W hw => peek_some W hw.here hsz hgc'
 have d3 : ((c'.toNat : Int) == 124) = false:=int_ne (by omega)
 have d4 : ((c'.toNat : Int) == 41) = false:=int_ne (by omega)
 unfold PeekIs at PK2
 obtain ⟨i0,hi0,hz0,hz1,hz2⟩:=nd_parts
 have hpb:=h.pw.lt
 have hpos:=flat_pos t
 obtain ⟨N,hN⟩ : ∃ N,N = (flat t).length:=⟨_,rfl⟩
 have HN:=hid hN
 have hposM:=flat_pos u
 obtain ⟨M,hM⟩ : ∃ M,M = (flat u).length:=⟨_,rfl⟩
 have HM:=hid hM
 have HND:=hid fun W B hB => node_at 3 W B hB
 have HOF:=hid hof
 have HCT:=hid hct
 unfold TreeAt at *
 rw [← hN] at HOF hfl hpos
 rw [← hM] at HCT hfl2 hposM
 clear h hst hst2 hgc hgc' hof hct hN hM
 go_enter Tryz.func148,Tryz.ntmps148
 go_wp2_with fail
 refine (PK1.out _ HP0.out).mono ?_
 rintro e x1 ⟨rfl,hb1⟩
 have HP1:=hid (HP0.out.below hb1)
 clear hb1
 go_wp2_with fail
 refine (HOF.out _ HP1.out).mono ?_
 rintro e x2 ⟨g,cap,rfl,ho,hp⟩
 have HP2:=hid (HP1.out.trans hp)
 have HO2:=hid (ho.base HP1.out.grow.size)
 clear ho hp
 go_wp2_with fail
 refine (PK2.out _ HP2.out).mono ?_
 rintro e x3 ⟨rfl,hb3⟩
 have HP3:=hid (HP2.out.below hb3)
 have HO3:=hid (HO2.out.below hb3)
 clear hb3
 go_wp2_with fail
 refine (HND.out _ x3.heap.size rfl).mono ?_
 rintro e x4 ⟨rfl,ho4,hb4⟩
 have HP4:=hid (HP3.out.below hb4)
 have HO4:=hid (HO3.out.below hb4)
 have hx3:=HP3.out.grow.size
 have HN4:=hid (ho4.base hx3)
 have hx4:=HP4.out.grow.size
 have HCS:=hid (HO4.out.cells hpos)
 have HNL : Hid (((flat t).flatMap ndCells).length = N * 5):=hid (by rw [flatMap_len,HN.out])
 have HON:=hid (nd_one (flat t))
 clear ho4 hb4
 go_wp2_with (at_builtin;refine wpList_append_lies _ rfl (.tmp 42) (.tmp 43) _ rfl w.heap.size 114 i0 _ 5 40 Tryz.underlying73 hi0 hz0 hz1 hz2 rfl (by omega) _ 1 _ rfl HN4.out ⟨g,0,none⟩ N _ ((flat t).flatMap ndCells) rfl HNL.out HCS.out HON.out hpos (by unfold maxLen;omega) (by omega) hx4 _ rfl ?_)
 intro g5 cap5 x5 hown5 hgrow5 _ _
 have HP5:=hid (HP4.out.app hgrow5 hx3)
 have hg5:=(hown5.lt g5 rfl).1
 have HR5 : Hid (OwnT x5 w.heap.size (.slice (some ⟨g5,0,none⟩) (1 + N) cap5) (⟨3,zc⟩ :: flat t)):=hid (by
  unfold OwnT
  have e : (⟨3,zc⟩ :: flat t : List Nd).length = 1 + N:=by rw [List.length_cons,← HN.out];omega
  rw [e]
  exact hown5)
 clear hown5 hgrow5
 go_wp2_with fail
 refine (HCT.out _ HP5.out).mono ?_
 rintro e x6 ⟨g6,cap6,rfl,ho6,hp6⟩
 have HP6:=hid (HP5.out.trans hp6)
 have HR6:=hid (HR5.out.grown hp6.grow hpb)
 have hx6:=HP6.out.grow.size
 have HC6:=hid (ho6.cells hposM)
 have HNM : Hid (((flat u).flatMap ndCells).length = M * 5):=hid (by rw [flatMap_len,HM.out])
 have HOM:=hid (nd_one (flat u))
 have hr6:=HR6.out
 unfold OwnT at hr6
 have e6 : (⟨3,zc⟩ :: flat t : List Nd).length = 1 + N:=by rw [List.length_cons,← HN.out];omega
 rw [e6] at hr6
 have HR7:=hid hr6
 clear ho6 hp6 hr6 e6
 go_wp2_with (at_builtin;refine wpList_append_lies _ rfl (.tmp 44) (.tmp 46) _ rfl w.heap.size 114 i0 _ 5 40 Tryz.underlying73 hi0 hz0 hz1 hz2 rfl (by omega) _ (1 + N) _ rfl HR7.out ⟨g6,0,none⟩ M _ ((flat u).flatMap ndCells) rfl HNM.out HC6.out HOM.out hposM (by unfold maxLen;omega) (by omega) hx6 _ rfl ?_)
 intro g7 cap7 x7 hown7 hgrow7 _ _
 have HP7:=hid (HP6.out.app hgrow7 hg5)
 have HR8 : Hid (OwnT x7 w.heap.size (.slice (some ⟨g7,0,none⟩) (1 + N + M) cap7) (flat (.cat t u))):=hid (by
  unfold OwnT
  have e : (flat (.cat t u)).length = 1 + N + M:=by show ((⟨3,zc⟩ : Nd) :: (flat t ++ flat u)).length = _;rw [List.length_cons,List.length_append,← HN.out,← HM.out];omega
  have e2 : (flat (.cat t u)).flatMap ndCells = (⟨3,zc⟩ :: flat t : List Nd).flatMap ndCells ++ (flat u).flatMap ndCells:=by show ((⟨3,zc⟩ : Nd) :: (flat t ++ flat u)).flatMap ndCells = _;simp [List.flatMap_append]
  rw [e,e2]
  exact hown7)
 have HL8 : Hid ((flat (.cat t u)).length = 1 + N + M):=hid (by show ((⟨3,zc⟩ : Nd) :: (flat t ++ flat u)).length = _;rw [List.length_cons,List.length_append,← HN.out,← HM.out];omega)
 clear hown7 hgrow7
 go_wp2_with fail
 go_ret
 refine ⟨g7,cap7,by rw [HL8.out];rfl,?_,HP7.out⟩
 rw [HL8.out]
 exact HR8.out
theorem cat_twobad {ev : Value} {pb : Nat} {s : ByteArray} {i : Nat} (w : World) (h : PIn ev pb s i w) (hst : ¬ stopS s.data.toList i = true) {t : Rx} {j k : Nat} (hst2 : ¬ stopS s.data.toList j = true) (hfl : (flat t).length ≤ 400) (hof : ∀ W,PW w pb s i W → Calls Tryz.prog 176 #[.pointer (some ⟨pb,0,none⟩)] W (TreeAt pb s t j W)) (hct : ∀ W,PW w pb s j W → Calls Tryz.prog 148 #[.pointer (some ⟨pb,0,none⟩)] W (PS W pb k)) :
 Calls Tryz.prog 148 #[.pointer (some ⟨pb,0,none⟩)] w (PS w pb k):=by
 obtain ⟨c,hgc,c1,c2⟩:=stop_no hst
 have PK1 : Hid (∀ W,PW w pb s i W → Calls Tryz.prog 175 #[.pointer (some ⟨pb,0,none⟩)] W (PeekIs c.toNat true W)):=hid fun W hw => peek_some W hw.here h.sz hgc
 have d1 : ((c.toNat : Int) == 124) = false:=int_ne (by omega)
 have d2 : ((c.toNat : Int) == 41) = false:=int_ne (by omega)
 have HP0:=hid h.pw
 unfold PeekIs at PK1
 have hsz:=h.sz
 obtain ⟨c',hgc',c1',c2'⟩:=stop_no hst2
 have PK2 : Hid (∀ W,PW w pb s j W → Calls Tryz.prog 175 #[.pointer (some ⟨pb,0,none⟩)] W (PeekIs c'.toNat true W)):=hid fun W hw => peek_some W hw.here hsz hgc'
 have d3 : ((c'.toNat : Int) == 124) = false:=int_ne (by omega)
 have d4 : ((c'.toNat : Int) == 41) = false:=int_ne (by omega)
 unfold PeekIs at PK2
 obtain ⟨i0,hi0,hz0,hz1,hz2⟩:=nd_parts
 have hpb:=h.pw.lt
 have hpos:=flat_pos t
 obtain ⟨N,hN⟩ : ∃ N,N = (flat t).length:=⟨_,rfl⟩
 have HN:=hid hN
 have HND:=hid fun W B hB => node_at 3 W B hB
 have HOF:=hid hof
 have HCT:=hid hct
 unfold TreeAt at *
 unfold PS at *
 rw [← hN] at HOF hfl hpos
 clear h hst hst2 hgc hgc' hof hct hN
 go_enter Tryz.func148,Tryz.ntmps148
 go_wp2_with fail
 refine (PK1.out _ HP0.out).mono ?_
 rintro e x1 ⟨rfl,hb1⟩
 have HP1:=hid (HP0.out.below hb1)
 clear hb1
 go_wp2_with fail
 refine (HOF.out _ HP1.out).mono ?_
 rintro e x2 ⟨g,cap,rfl,ho,hp⟩
 have HP2:=hid (HP1.out.trans hp)
 have HO2:=hid (ho.base HP1.out.grow.size)
 clear ho hp
 go_wp2_with fail
 refine (PK2.out _ HP2.out).mono ?_
 rintro e x3 ⟨rfl,hb3⟩
 have HP3:=hid (HP2.out.below hb3)
 have HO3:=hid (HO2.out.below hb3)
 clear hb3
 go_wp2_with fail
 refine (HND.out _ x3.heap.size rfl).mono ?_
 rintro e x4 ⟨rfl,ho4,hb4⟩
 have HP4:=hid (HP3.out.below hb4)
 have HO4:=hid (HO3.out.below hb4)
 have hx3:=HP3.out.grow.size
 have HN4:=hid (ho4.base hx3)
 have hx4:=HP4.out.grow.size
 have HCS:=hid (HO4.out.cells hpos)
 have HNL : Hid (((flat t).flatMap ndCells).length = N * 5):=hid (by rw [flatMap_len,HN.out])
 have HON:=hid (nd_one (flat t))
 clear ho4 hb4
 go_wp2_with (at_builtin;refine wpList_append_lies _ rfl (.tmp 42) (.tmp 43) _ rfl w.heap.size 114 i0 _ 5 40 Tryz.underlying73 hi0 hz0 hz1 hz2 rfl (by omega) _ 1 _ rfl HN4.out ⟨g,0,none⟩ N _ ((flat t).flatMap ndCells) rfl HNL.out HCS.out HON.out hpos (by unfold maxLen;omega) (by omega) hx4 _ rfl ?_)
 intro g5 cap5 x5 hown5 hgrow5 _ _
 have HP5:=hid (HP4.out.app hgrow5 hx3)
 have hg5:=(hown5.lt g5 rfl).1
 have HR5 : Hid (OwnT x5 w.heap.size (.slice (some ⟨g5,0,none⟩) (1 + N) cap5) (⟨3,zc⟩ :: flat t)):=hid (by
  unfold OwnT
  have e : (⟨3,zc⟩ :: flat t : List Nd).length = 1 + N:=by rw [List.length_cons,← HN.out];omega
  rw [e]
  exact hown5)
 clear hown5 hgrow5
 go_wp2_with fail
 refine (HCT.out _ HP5.out).mono ?_
 rintro e x6 ⟨rfl,hp⟩
 exact ⟨rfl,rfl,HP5.out.grow.trans hp⟩
theorem or_bad {ev : Value} {pb : Nat} {s : ByteArray} {i : Nat} (w : World) (h : PIn ev pb s i w) {k : Nat} (hca : ∀ W,PW w pb s i W → Calls Tryz.prog 148 #[.pointer (some ⟨pb,0,none⟩)] W (PS W pb k)) :
 Calls Tryz.prog 112 #[.pointer (some ⟨pb,0,none⟩)] w (PS w pb k):=by
 have HCA:=hid hca
 have HP0:=hid h.pw
 clear h hca
 unfold PS at *
 go_enter Tryz.func112,Tryz.ntmps112
 go_wp2_with fail
 refine (HCA.out _ HP0.out).mono ?_
 rintro e x2 ⟨rfl,hp⟩
 exact ⟨rfl,rfl,HP0.out.grow.trans hp⟩
theorem or_one {ev : Value} {pb : Nat} {s : ByteArray} {i : Nat} (w : World) (h : PIn ev pb s i w) {t : Rx} {j : Nat} (hjs : j ≤ s.size) (hj : s.data.toList[j]? ≠ some 124) (hca : ∀ W,PW w pb s i W → Calls Tryz.prog 148 #[.pointer (some ⟨pb,0,none⟩)] W (TreeAt pb s t j W)) :
 Calls Tryz.prog 112 #[.pointer (some ⟨pb,0,none⟩)] w (TreeAt pb s t j w):=by
 have HCA:=hid hca
 have HP0:=hid h.pw
 have hsz:=h.sz
 have NO : Hid (∀ W,PW w pb s j W → Calls Tryz.prog 149 #[.pointer (some ⟨pb,0,none⟩),.int .u8 124] W (IsNo W)):=hid fun W hw => is_no (c:=124) W hw.here hsz hjs hj
 unfold TreeAt at *
 clear h hca hj
 go_enter Tryz.func112,Tryz.ntmps112
 go_wp2_with fail
 refine (HCA.out _ HP0.out).mono ?_
 rintro e x2 ⟨g,cap,rfl,ho,hp⟩
 have HP2:=hid (HP0.out.trans hp)
 have HO2:=hid (ho.base HP0.out.grow.size)
 clear ho hp
 go_wp2_with fail
 refine (NO.out _ HP2.out).mono ?_
 rintro e x3 ⟨rfl,hb3⟩
 have HP3:=hid (HP2.out.below hb3)
 have HO3:=hid (HO2.out.below hb3)
 clear hb3
 go_wp2_with fail
 go_ret
 exact ⟨g,cap,rfl,HO3.out,HP3.out⟩
theorem or_two {ev : Value} {pb : Nat} {s : ByteArray} {i : Nat} (w : World) (h : PIn ev pb s i w) {t u : Rx} {j k : Nat} (hj : s.data.toList[j]? = some 124) (hfl : (flat t).length ≤ 1000) (hfl2 : (flat u).length ≤ 1000) (hca : ∀ W,PW w pb s i W → Calls Tryz.prog 148 #[.pointer (some ⟨pb,0,none⟩)] W (TreeAt pb s t j W)) (hoo : ∀ W,PW w pb s (j + 1) W → Calls Tryz.prog 112 #[.pointer (some ⟨pb,0,none⟩)] W (TreeAt pb s u k W)) :
 Calls Tryz.prog 112 #[.pointer (some ⟨pb,0,none⟩)] w (TreeAt pb s (.alt t u) k w):=by
 have HCA:=hid hca
 have HOO:=hid hoo
 have HP0:=hid h.pw
 have hsz:=h.sz
 have YS : Hid (∀ W,PW w pb s j W → Calls Tryz.prog 149 #[.pointer (some ⟨pb,0,none⟩),.int .u8 124] W (IsYes pb s j W)):=hid fun W hw => is_yes (c:=124) W hw.here hsz hj
 have HND:=hid fun W B hB => node_at 4 W B hB
 obtain ⟨i0,hi0,hz0,hz1,hz2⟩:=nd_parts
 have hpb:=h.pw.lt
 have hpos:=flat_pos t
 obtain ⟨N,hN⟩ : ∃ N,N = (flat t).length:=⟨_,rfl⟩
 have HN:=hid hN
 have hposM:=flat_pos u
 obtain ⟨M,hM⟩ : ∃ M,M = (flat u).length:=⟨_,rfl⟩
 have HM:=hid hM
 unfold TreeAt at *
 rw [← hN] at HCA hfl hpos
 rw [← hM] at HOO hfl2 hposM
 clear h hca hoo hj hN hM
 go_enter Tryz.func112,Tryz.ntmps112
 go_wp2_with fail
 refine (HCA.out _ HP0.out).mono ?_
 rintro e x2 ⟨g,cap,rfl,ho,hp⟩
 have HP2:=hid (HP0.out.trans hp)
 have HO2:=hid (ho.base HP0.out.grow.size)
 clear ho hp
 go_wp2_with fail
 refine (YS.out _ HP2.out).mono ?_
 rintro e x3 ⟨rfl,hp3⟩
 have HP3:=hid (HP2.out.trans hp3)
 have HO3:=hid (HO2.out.grown hp3.grow hpb)
 clear hp3
 go_wp2_with fail
 refine (HND.out _ x3.heap.size rfl).mono ?_
 rintro e x4 ⟨rfl,ho4,hb4⟩
 have HP4:=hid (HP3.out.below hb4)
 have HO4:=hid (HO3.out.below hb4)
 have hx3:=HP3.out.grow.size
 have HN4:=hid (ho4.base hx3)
 have hx4:=HP4.out.grow.size
 have HCS:=hid (HO4.out.cells hpos)
 have HNL : Hid (((flat t).flatMap ndCells).length = N * 5):=hid (by rw [flatMap_len,HN.out])
 have HON:=hid (nd_one (flat t))
 clear ho4 hb4
 go_wp2_with (at_builtin;refine wpList_append_lies _ rfl (.tmp 10) (.tmp 11) _ rfl w.heap.size 114 i0 _ 5 40 Tryz.underlying73 hi0 hz0 hz1 hz2 rfl (by omega) _ 1 _ rfl HN4.out ⟨g,0,none⟩ N _ ((flat t).flatMap ndCells) rfl HNL.out HCS.out HON.out hpos (by unfold maxLen;omega) (by omega) hx4 _ rfl ?_)
 intro g5 cap5 x5 hown5 hgrow5 _ _
 have HP5:=hid (HP4.out.app hgrow5 hx3)
 have hg5:=(hown5.lt g5 rfl).1
 have HR5 : Hid (OwnT x5 w.heap.size (.slice (some ⟨g5,0,none⟩) (1 + N) cap5) (⟨4,zc⟩ :: flat t)):=hid (by
  unfold OwnT
  have e : (⟨4,zc⟩ :: flat t : List Nd).length = 1 + N:=by rw [List.length_cons,← HN.out];omega
  rw [e]
  exact hown5)
 clear hown5 hgrow5
 go_wp2_with fail
 refine (HOO.out _ HP5.out).mono ?_
 rintro e x6 ⟨g6,cap6,rfl,ho6,hp6⟩
 have HP6:=hid (HP5.out.trans hp6)
 have HR6:=hid (HR5.out.grown hp6.grow hpb)
 have hx6:=HP6.out.grow.size
 have HC6:=hid (ho6.cells hposM)
 have HNM : Hid (((flat u).flatMap ndCells).length = M * 5):=hid (by rw [flatMap_len,HM.out])
 have HOM:=hid (nd_one (flat u))
 have hr6:=HR6.out
 unfold OwnT at hr6
 have e6 : (⟨4,zc⟩ :: flat t : List Nd).length = 1 + N:=by rw [List.length_cons,← HN.out];omega
 rw [e6] at hr6
 have HR7:=hid hr6
 clear ho6 hp6 hr6 e6
 go_wp2_with (at_builtin;refine wpList_append_lies _ rfl (.tmp 12) (.tmp 14) _ rfl w.heap.size 114 i0 _ 5 40 Tryz.underlying73 hi0 hz0 hz1 hz2 rfl (by omega) _ (1 + N) _ rfl HR7.out ⟨g6,0,none⟩ M _ ((flat u).flatMap ndCells) rfl HNM.out HC6.out HOM.out hposM (by unfold maxLen;omega) (by omega) hx6 _ rfl ?_)
 intro g7 cap7 x7 hown7 hgrow7 _ _
 have HP7:=hid (HP6.out.app hgrow7 hg5)
 have HR8 : Hid (OwnT x7 w.heap.size (.slice (some ⟨g7,0,none⟩) (1 + N + M) cap7) (flat (.alt t u))):=hid (by
  unfold OwnT
  have e : (flat (.alt t u)).length = 1 + N + M:=by show ((⟨4,zc⟩ : Nd) :: (flat t ++ flat u)).length = _;rw [List.length_cons,List.length_append,← HN.out,← HM.out];omega
  have e2 : (flat (.alt t u)).flatMap ndCells = (⟨4,zc⟩ :: flat t : List Nd).flatMap ndCells ++ (flat u).flatMap ndCells:=by show ((⟨4,zc⟩ : Nd) :: (flat t ++ flat u)).flatMap ndCells = _;simp [List.flatMap_append]
  rw [e,e2]
  exact hown7)
 have HL8 : Hid ((flat (.alt t u)).length = 1 + N + M):=hid (by show ((⟨4,zc⟩ : Nd) :: (flat t ++ flat u)).length = _;rw [List.length_cons,List.length_append,← HN.out,← HM.out];omega)
 clear hown7 hgrow7
 go_wp2_with fail
 go_ret
 refine ⟨g7,cap7,by rw [HL8.out];rfl,?_,HP7.out⟩
 rw [HL8.out]
 exact HR8.out
theorem or_twobad {ev : Value} {pb : Nat} {s : ByteArray} {i : Nat} (w : World) (h : PIn ev pb s i w) {t : Rx} {j k : Nat} (hj : s.data.toList[j]? = some 124) (hfl : (flat t).length ≤ 1000) (hca : ∀ W,PW w pb s i W → Calls Tryz.prog 148 #[.pointer (some ⟨pb,0,none⟩)] W (TreeAt pb s t j W)) (hoo : ∀ W,PW w pb s (j + 1) W → Calls Tryz.prog 112 #[.pointer (some ⟨pb,0,none⟩)] W (PS W pb k)) :
 Calls Tryz.prog 112 #[.pointer (some ⟨pb,0,none⟩)] w (PS w pb k):=by
 have HCA:=hid hca
 have HOO:=hid hoo
 have HP0:=hid h.pw
 have hsz:=h.sz
 have YS : Hid (∀ W,PW w pb s j W → Calls Tryz.prog 149 #[.pointer (some ⟨pb,0,none⟩),.int .u8 124] W (IsYes pb s j W)):=hid fun W hw => is_yes (c:=124) W hw.here hsz hj
 have HND:=hid fun W B hB => node_at 4 W B hB
 obtain ⟨i0,hi0,hz0,hz1,hz2⟩:=nd_parts
 have hpb:=h.pw.lt
 have hpos:=flat_pos t
 obtain ⟨N,hN⟩ : ∃ N,N = (flat t).length:=⟨_,rfl⟩
 have HN:=hid hN
 unfold TreeAt at *
 unfold PS at *
 rw [← hN] at HCA hfl hpos
 clear h hca hoo hj hN
 go_enter Tryz.func112,Tryz.ntmps112
 go_wp2_with fail
 refine (HCA.out _ HP0.out).mono ?_
 rintro e x2 ⟨g,cap,rfl,ho,hp⟩
 have HP2:=hid (HP0.out.trans hp)
 have HO2:=hid (ho.base HP0.out.grow.size)
 clear ho hp
 go_wp2_with fail
 refine (YS.out _ HP2.out).mono ?_
 rintro e x3 ⟨rfl,hp3⟩
 have HP3:=hid (HP2.out.trans hp3)
 have HO3:=hid (HO2.out.grown hp3.grow hpb)
 clear hp3
 go_wp2_with fail
 refine (HND.out _ x3.heap.size rfl).mono ?_
 rintro e x4 ⟨rfl,ho4,hb4⟩
 have HP4:=hid (HP3.out.below hb4)
 have HO4:=hid (HO3.out.below hb4)
 have hx3:=HP3.out.grow.size
 have HN4:=hid (ho4.base hx3)
 have hx4:=HP4.out.grow.size
 have HCS:=hid (HO4.out.cells hpos)
 have HNL : Hid (((flat t).flatMap ndCells).length = N * 5):=hid (by rw [flatMap_len,HN.out])
 have HON:=hid (nd_one (flat t))
 clear ho4 hb4
 go_wp2_with (at_builtin;refine wpList_append_lies _ rfl (.tmp 10) (.tmp 11) _ rfl w.heap.size 114 i0 _ 5 40 Tryz.underlying73 hi0 hz0 hz1 hz2 rfl (by omega) _ 1 _ rfl HN4.out ⟨g,0,none⟩ N _ ((flat t).flatMap ndCells) rfl HNL.out HCS.out HON.out hpos (by unfold maxLen;omega) (by omega) hx4 _ rfl ?_)
 intro g5 cap5 x5 hown5 hgrow5 _ _
 have HP5:=hid (HP4.out.app hgrow5 hx3)
 have hg5:=(hown5.lt g5 rfl).1
 have HR5 : Hid (OwnT x5 w.heap.size (.slice (some ⟨g5,0,none⟩) (1 + N) cap5) (⟨4,zc⟩ :: flat t)):=hid (by
  unfold OwnT
  have e : (⟨4,zc⟩ :: flat t : List Nd).length = 1 + N:=by rw [List.length_cons,← HN.out];omega
  rw [e]
  exact hown5)
 clear hown5 hgrow5
 go_wp2_with fail
 refine (HOO.out _ HP5.out).mono ?_
 rintro e x6 ⟨rfl,hp⟩
 exact ⟨rfl,rfl,HP5.out.grow.trans hp⟩
theorem read_c {ev : Value} {pb : Nat} {s : ByteArray} : ∀ (n i : Nat) (W : World),s.size - i < n → PIn ev pb s i W →
 Calls Tryz.prog 148 #[.pointer (some ⟨pb,0,none⟩)] W (RdT (catS s.data.toList i) pb s W) ∧ Calls Tryz.prog 112 #[.pointer (some ⟨pb,0,none⟩)] W (RdT (orS s.data.toList i) pb s W):=by
 intro n
 induction n with
 | zero => intro i W hn;omega
 | succ n ih =>
   intro i W hn h
   have hle:=h.le
   have hl:=at_end s
   have hat : ∀ W',PW W pb s i W' → Calls Tryz.prog 197 #[.pointer (some ⟨pb,0,none⟩)] W' (RdT (atomS s.data.toList i) pb s W'):=fun W' hw =>
    atom_c W' (h.next hw hle) (fun h40 W'' hw' => by
     have:=getE_lt h40
     rw [hl] at this
     exact (ih (i + 1) W'' (by omega) ((h.next hw hle).next hw' (by omega))).2)
   have hrd:=read_ok (s:=s.data.toList) _ i (Nat.le_refl _) (by rw [hl];exact hle)
   have hcat : ∀ W',PW W pb s i W' → Calls Tryz.prog 148 #[.pointer (some ⟨pb,0,none⟩)] W' (RdT (catS s.data.toList i) pb s W'):=by
    intro W' hw
    have h':=h.next hw hle
    by_cases hst : stopS s.data.toList i = true
    ·exact (cat_stop W' h' hst).mono fun e w' hh => .inl ⟨.empty,i,by rw [catS,if_pos hst],hh⟩
    ·cases hA : atomS s.data.toList i with
     | bad k =>
       exact (cat_bad W' h' hst (fun W'' hw' => often_bad W'' (h'.next hw' hle) ((hat W'' (hw.trans hw')).mono fun e w' hh => hh.bad hA))).mono fun e w' hh => .inr ⟨k,by rw [catS,if_neg hst,hA],hh⟩
     | ok t j =>
       obtain ⟨hij,hjs,hokt,hfl⟩:=hrd.1 t j hA
       obtain ⟨s1,s2,s3,s4,_⟩:=signsS_ok _ j t (Nat.le_refl _) hjs hokt
       have hof : ∀ W'',PW W' pb s i W'' → Calls Tryz.prog 176 #[.pointer (some ⟨pb,0,none⟩)] W'' (TreeAt pb s (signsS s.data.toList j t).1 (signsS s.data.toList j t).2 W''):=fun W'' hw' =>
        (often_ok W'' (h'.next hw' hle) (by rw [hl] at hjs;exact hjs) (by omega) ((hat W'' (hw.trans hw')).mono fun e w' hh => hh.ok hA)).mono (by
          rintro e w' ⟨tg,jg,hs,ht⟩
          rw [hs]
          exact ht)
       have hC0 : catS s.data.toList i = if stopS s.data.toList (signsS s.data.toList j t).2 = true then .ok (signsS s.data.toList j t).1 (signsS s.data.toList j t).2
        else match catS s.data.toList (signsS s.data.toList j t).2 with
         | .bad k => .bad k
         | .ok u k => .ok (.cat (signsS s.data.toList j t).1 u) k:=by
        rw [catS,if_neg hst,hA]
        dsimp only
        rw [if_pos (show i < (signsS s.data.toList j t).2 ∧ i ≤ s.data.toList.length from ⟨by omega,by omega⟩)]
        rfl
       generalize (signsS s.data.toList j t).1 = tg at *
       generalize (signsS s.data.toList j t).2 = jg at *
       rw [hl] at s2
       by_cases hst2 : stopS s.data.toList jg = true
       ·exact (cat_one W' h' hst s2 hst2 hof).mono fun e w' hh => .inl ⟨tg,jg,by rw [hC0,if_pos hst2],hh⟩
       ·rw [if_neg hst2] at hC0
        have hsz:=h.sz
        have hrec : ∀ W'',PW W' pb s jg W'' → Calls Tryz.prog 148 #[.pointer (some ⟨pb,0,none⟩)] W'' (RdT (catS s.data.toList jg) pb s W''):=fun W'' hw' => (ih jg W'' (by omega) (h'.next hw' s2)).1
        cases hC : catS s.data.toList jg with
        | bad k => exact (cat_twobad W' h' hst hst2 (by omega) hof (fun W'' hw' => (hrec W'' hw').mono fun e w' hh => hh.bad hC)).mono fun e w' hh => .inr ⟨k,by rw [hC0,hC],hh⟩
        | ok u k =>
          have hu:=(read_ok (s:=s.data.toList) _ jg (Nat.le_refl _) (by rw [hl];exact s2)).2.1 u k hC
          exact (cat_two W' h' hst hst2 (by omega) (by have:=hu.2.1;have:=hu.2.2.2.1;omega) hof (fun W'' hw' => (hrec W'' hw').mono fun e w' hh => hh.ok hC)).mono fun e w' hh => .inl ⟨.cat tg u,k,by rw [hC0,hC],hh⟩
   refine ⟨hcat W h.pw,?_⟩
   cases hA : catS s.data.toList i with
   | bad k => exact (or_bad W h (fun W' hw => (hcat W' hw).mono fun e w' hh => hh.bad hA)).mono fun e w' hh => .inr ⟨k,by rw [orS,hA],hh⟩
   | ok t j =>
     obtain ⟨hij,hjs,hokt,hfl,hst⟩:=hrd.2.1 t j hA
     have hsz:=h.sz
     have hjs':=hjs
     rw [hl] at hjs'
     by_cases hj : s.data.toList[j]? = some 124
     ·have hj2:=getE_lt hj
      rw [hl] at hj2
      have hO0 : orS s.data.toList i = match orS s.data.toList (j + 1) with
       | .bad k => .bad k
       | .ok u k => .ok (.alt t u) k:=by
       rw [orS,hA]
       dsimp only
       rw [if_pos hj,if_pos (show i ≤ j ∧ i ≤ s.data.toList.length from ⟨hij,by omega⟩)]
       rfl
      have hrec : ∀ W'',PW W pb s (j + 1) W'' → Calls Tryz.prog 112 #[.pointer (some ⟨pb,0,none⟩)] W'' (RdT (orS s.data.toList (j + 1)) pb s W''):=fun W'' hw' => (ih (j + 1) W'' (by omega) (h.next hw' (by omega))).2
      cases hC : orS s.data.toList (j + 1) with
      | bad k => exact (or_twobad W h hj (by omega) (fun W' hw => (hcat W' hw).mono fun e w' hh => hh.ok hA) (fun W'' hw' => (hrec W'' hw').mono fun e w' hh => hh.bad hC)).mono fun e w' hh => .inr ⟨k,by rw [hO0,hC],hh⟩
      | ok u k =>
        have hu:=(read_ok (s:=s.data.toList) _ (j + 1) (Nat.le_refl _) (by rw [hl];omega)).2.2 u k hC
        exact (or_two W h hj (by omega) (by have:=hu.2.1;have:=hu.2.2.2.1;omega) (fun W' hw => (hcat W' hw).mono fun e w' hh => hh.ok hA) (fun W'' hw' => (hrec W'' hw').mono fun e w' hh => hh.ok hC)).mono fun e w' hh => .inl ⟨.alt t u,k,by rw [hO0,hC],hh⟩
     ·exact (or_one W h hjs' hj (fun W' hw => (hcat W' hw).mono fun e w' hh => hh.ok hA)).mono fun e w' hh => .inl ⟨t,j,by rw [orS,hA];dsimp only;rw [if_neg hj],hh⟩
end Go.Proofs.YthhcpbfgoofppaaGreatDoor
