/-
  Walks of package syn: what whole defers.
-/
import Derived.Test.YthhcpbfgoofppaaGreatDoorGSynE
import Derived.Defers
import Derived.Recover
import Derived.Laws.Pointers
set_option linter.unusedVariables false
set_option linter.unusedSimpArgs false
set_option maxRecDepth 100000
set_option maxHeartbeats 4000000
open Go.Lib (hid)
namespace Go.Proofs.YthhcpbfgoofppaaGreatDoor
open Go.RowKit Wf
theorem ta_nil (W : World) : (Instr.typeAssert .nilIface 20 188 true).run Tryz.prog W = .ok (.tuple #[.agg #[.int .i64 0],.bool false]) W:=by kernel_rfl
theorem ta_stop (k : Int) (W : World) : (Instr.typeAssert (.iface 188 (.agg #[.int .i64 k])) 20 188 true).run Tryz.prog W = .ok (.tuple #[.agg #[.int .i64 k],.bool true]) W:=by kernel_rfl
theorem catch_idle (p q r : Addr) (w : World) :
 CallsD Tryz.prog 111 #[.pointer (some p),.pointer (some q),.pointer (some r)] .returning w fun e u' w' => e = .returned (.tuple #[]) ∧ u' = .returning ∧ Below w.heap.size w w':=by
 refine callsD_of_wpS Tryz.func111 rfl fun c₀ cs hu => ?_
 rw [show (#[.pointer (some p),.pointer (some q),.pointer (some r)] : Array Value) ++ Array.replicate (Tryz.f111.ntmps - (#[.pointer (some p),.pointer (some q),.pointer (some r)] : Array Value).size) undef = #[.pointer (some p),.pointer (some q),.pointer (some r),undef,undef,undef,undef,undef,undef,undef,undef,undef,undef,undef] by rw [Tryz.ntmps111];rfl]
 apply wpS_seq
 apply wpS_region
 have hta:=ta_nil
 simp [wpOpsS,go_sem,recoverD,hu,Exit.thenS,hta]
 refine wpS_of_wp ?_
 go_wp2
 cases c₀
 simp_all [bodyPostS,results,Tryz.results111]
 exact (Below.refl _ _).alloc (Nat.le_refl _) _
theorem catch_stop (P k : Nat) (v2 v3 v4 : Value) (w : World) (b2 : Blk w P 73 #[v2]) (b3 : Blk w (P + 1) 3 #[v3]) (b4 : Blk w (P + 2) 36 #[v4]) :
 CallsD Tryz.prog 111 #[.pointer (some ⟨P,0,none⟩),.pointer (some ⟨P + 1,0,none⟩),.pointer (some ⟨P + 2,0,none⟩)] (.panicking [{ v:=stopV k,recovered:=false }]) w fun e u' w' => e = .returned (.tuple #[]) ∧ u' = .panicking [{ v:=stopV k,recovered:=true }] ∧
  Blk w' P 73 #[.slice none 0 0] ∧ Blk w' (P + 1) 3 #[.int .i64 (k : Int)] ∧ Blk w' (P + 2) 36 #[.iface 81 (.int .i64 5)] ∧ Below P w w':=by
 have hP:=b4.lt
 have a2:=b2.alloc (.cells #[.int .i64 (k : Int)] 188)
 have a3:=b3.alloc (.cells #[.int .i64 (k : Int)] 188)
 have a4:=b4.alloc (.cells #[.int .i64 (k : Int)] 188)
 have x2:=a2.cell 0
 have x3:=a3.cell 0
 have x4:=a4.cell 0
 have y2:=a2.frozen 0
 have y3:=a3.frozen 0
 have y4:=a4.frozen 0
 simp only [List.getElem?_toArray,List.getElem?_cons_succ,List.getElem?_cons_zero] at x2 x3 x4
 have B2:=hid b2
 have B3:=hid b3
 have B4:=hid b4
 clear b2 b3 b4 a2 a3 a4
 unfold stopV
 refine callsD_of_wpS Tryz.func111 rfl fun c₀ cs hu => ?_
 rw [show (#[.pointer (some ⟨P,0,none⟩),.pointer (some ⟨P + 1,0,none⟩),.pointer (some ⟨P + 2,0,none⟩)] : Array Value) ++ Array.replicate (Tryz.f111.ntmps - (#[.pointer (some ⟨P,0,none⟩),.pointer (some ⟨P + 1,0,none⟩),.pointer (some ⟨P + 2,0,none⟩)] : Array Value).size) undef = #[.pointer (some ⟨P,0,none⟩),.pointer (some ⟨P + 1,0,none⟩),.pointer (some ⟨P + 2,0,none⟩),undef,undef,undef,undef,undef,undef,undef,undef,undef,undef,undef] by rw [Tryz.ntmps111];rfl]
 apply wpS_seq
 apply wpS_region
 have hta:=ta_stop
 simp [wpOpsS,go_sem,recoverD,hu,Exit.thenS,hta]
 refine wpS_of_wp ?_
 clear hta
 go_wp2_with fail
 go_region
 go_wp2
 have n2:=(((B2.out.alloc (.cells #[.int .i64 (k : Int)] 188)).set_ 0 (.slice none 0 0)).far (p:=⟨P + 1,0,none⟩) (show P ≠ P + 1 by omega) (.int .i64 (k : Int))).far (p:=⟨P + 2,0,none⟩) (show P ≠ P + 2 by omega) (.iface 81 (.int .i64 5))
 have n3:=(((B3.out.alloc (.cells #[.int .i64 (k : Int)] 188)).far (p:=⟨P,0,none⟩) (show P + 1 ≠ P by omega) (.slice none 0 0)).set_ 0 (.int .i64 (k : Int))).far (p:=⟨P + 2,0,none⟩) (show P + 1 ≠ P + 2 by omega) (.iface 81 (.int .i64 5))
 have n4:=(((B4.out.alloc (.cells #[.int .i64 (k : Int)] 188)).far (p:=⟨P,0,none⟩) (show P + 2 ≠ P by omega) (.slice none 0 0)).far (p:=⟨P + 1,0,none⟩) (show P + 2 ≠ P + 1 by omega) (.int .i64 (k : Int))).set_ 0 (.iface 81 (.int .i64 5))
 have hbb : Below P w (((((w.alloc (.cells #[.int .i64 (k : Int)] 188)).setCell ⟨P,0,none⟩ (.slice none 0 0)).setCell ⟨P + 1,0,none⟩ (.int .i64 (k : Int))).setCell ⟨P + 2,0,none⟩ (.iface 81 (.int .i64 5))).drew):=(((((Below.refl P w).alloc (by omega) _).setCell (Nat.le_refl _) _).setCell (by simp) _).setCell (by simp) _).drew
 refine ⟨rfl,.panicking [{ v:=.iface 188 (.agg #[.int .i64 (k : Int)]),recovered:=true }],rfl,.tuple #[],?_,rfl,rfl,n2,n3,n4,hbb⟩
 simp [results,Tryz.results111]
theorem Blk.new_at (w : World) (t : TypeId) (cs : Array Value) (g : Nat) (hg : w.heap.size = g) : Blk (w.alloc (.cells cs t)) g t cs:=by
 subst hg
 exact Blk.new w t cs
theorem Blk.past {w w' : World} {g pb : Nat} {t : TypeId} {cs : Array Value} (h : Blk w g t cs) (hg : w.grownBy w' (some pb)) (hne : g ≠ pb) : Blk w' g t cs:=(hg.block g h.lt (fun e => hne (Option.some.inj e))).trans h
theorem grown_out {w W0 w1 w2 : World} {pb : Nat} (h0 : Below w.heap.size w W0) (h1 : W0.grownBy w1 (some pb)) (h2 : Below w.heap.size w1 w2) : w.grownBy w2 (some pb) :=
 ⟨h2.os.trans (h1.os.trans h0.os),h2.tape.trans (h1.tape.trans h0.tape),h2.output.trans (h1.output.trans h0.output),Nat.le_trans h0.size (Nat.le_trans h1.size h2.size),fun q hq hne => (h2.block q hq).trans ((h1.block q (Nat.lt_of_lt_of_le hq h0.size) hne).trans (h0.block q hq))⟩
theorem OwnT.set {w : World} {base : Nat} {v : Value} {l : List Nd} (h : OwnT w base v l) (q o : Nat) (u : Value) (hq : q < base) : OwnT (w.setCell ⟨q,o,none⟩ u) base v l :=
 h.grown (pb:=q) ⟨rfl,rfl,rfl,by simp,fun k _ hn => Below.heap_setCell w _ _ k (fun e => hn (by rw [e]))⟩ hq
theorem OwnT.drewN {w : World} {base : Nat} {v : Value} {l : List Nd} (h : OwnT w base v l) (n : Nat) : OwnT (w.drewN n) base v l:=h.below (below_drewN (Below.refl _ _) n)
theorem Blk.drewN {w : World} {g : Nat} {t : TypeId} {cs : Array Value} (h : Blk w g t cs) (n : Nat) : Blk (w.drewN n) g t cs:=h
def SWholeIs (r : PR Rx) (s : ByteArray) (pb : Nat) (w : World) (e : Ending) (w' : World) : Prop :=
 (∃ t g cap,r = .ok t s.size ∧ e = .returned (.tuple #[.slice (some ⟨g,0,none⟩) (flat t).length cap,.int .i64 0,.nilIface]) ∧ OwnT w' w.heap.size (.slice (some ⟨g,0,none⟩) (flat t).length cap) (flat t) ∧ w.grownBy w' (some pb)) ∨
 (∃ k : Nat,(r = .bad k ∨ ∃ t,r = .ok t k ∧ k ≠ s.size) ∧ e = .returned (.tuple #[.slice none 0 0,.int .i64 (k : Int),.iface 81 (.int .i64 5)]) ∧ w.grownBy w' (some pb))
theorem whole_bad {ev : Value} {pb : Nat} {s : ByteArray} (w : World) (h : PIn ev pb s 0 w) {k : Nat} (hr : orS s.data.toList 0 = .bad k) :
 Calls Tryz.prog 75 #[.pointer (some ⟨pb,0,none⟩)] w (SWholeIs (orS s.data.toList 0) s pb w):=by
 have HOR : Hid (∀ W,PW w pb s 0 W → Calls Tryz.prog 112 #[.pointer (some ⟨pb,0,none⟩)] W (PS W pb k)):=hid fun W hw => ((read_c (s.size + 1) 0 W (by omega) (h.next hw (by omega))).2).mono fun e w' hh => hh.bad hr
 have HP0:=hid h.pw
 have HB : Hid (Below w.heap.size w (((w.alloc (.cells #[.slice none 0 0] 73)).alloc (.cells #[.int .i64 0] 3)).alloc (.cells #[.nilIface] 36))):=hid ((((Below.refl _ _).alloc (Nat.le_refl _) _).alloc (by simp) _).alloc (by simp;omega) _)
 have hmf : ∀ (fn : Fn) (first cap : Array Value) (w : World),(Instr.makeFunc fn first cap).run Tryz.prog w = .ok (.func fn first cap) w:=fun _ _ _ _ => rfl
 unfold SWholeIs
 have HR:=hid hr
 clear h hr
 unfold PS at HOR
 go_enter_defers Tryz.func75,Tryz.ntmps75
 go_wp2_with fail
 refine (HOR.out _ (HP0.out.below HB.out)).mono ?_
 rintro e w1 ⟨rfl,hg⟩
 have hpb:=HP0.out.lt
 have b2 : Blk w1 w.heap.size 73 #[.slice none 0 0]:=Blk.past (((Blk.new w 73 #[.slice none 0 0]).alloc (.cells #[.int .i64 0] 3)).alloc (.cells #[.nilIface] 36)) hg (by omega)
 have b3 : Blk w1 (w.heap.size + 1) 3 #[.int .i64 0]:=Blk.past ((Blk.new_at (w.alloc (.cells #[.slice none 0 0] 73)) 3 #[.int .i64 0] (w.heap.size + 1) (by simp)).alloc (.cells #[.nilIface] 36)) hg (by omega)
 have b4 : Blk w1 (w.heap.size + 2) 36 #[.nilIface]:=Blk.past (Blk.new_at ((w.alloc (.cells #[.slice none 0 0] 73)).alloc (.cells #[.int .i64 0] 3)) 36 #[.nilIface] (w.heap.size + 2) (by simp)) hg (by omega)
 have HG:=hid hg
 refine leaves_cons (f:=111) (args:=#[.pointer (some ⟨w.heap.size,0,none⟩),.pointer (some ⟨w.heap.size + 1,0,none⟩),.pointer (some ⟨w.heap.size + 2,0,none⟩)]) (by simp) (by simp [go_sem]) ?_
 refine (catch_stop w.heap.size k _ _ _ w1 b2 b3 b4).mono ?_
 rintro e u' w2 ⟨rfl,rfl,n2,n3,n4,hb⟩
 have c2:=n2.cell 0
 have c3:=n3.cell 0
 have c4:=n4.cell 0
 simp only [List.getElem?_toArray,List.getElem?_cons_succ,List.getElem?_cons_zero] at c2 c3 c4
 have HFIN:=hid (grown_out HB.out HG.out hb)
 clear n2 n3 n4 hb hg b2 b3 b4
 simp [Leaves,settle,results,Tryz.results75,go_sem,c2,c3,c4]
 exact ⟨k,.inl HR.out,rfl,HFIN.out⟩
theorem whole_ok {ev : Value} {pb : Nat} {s : ByteArray} (w : World) (h : PIn ev pb s 0 w) {t : Rx} {j : Nat} (hjs : j ≤ s.size) (hr : orS s.data.toList 0 = .ok t j) :
 Calls Tryz.prog 75 #[.pointer (some ⟨pb,0,none⟩)] w (SWholeIs (orS s.data.toList 0) s pb w):=by
 have HOR : Hid (∀ W,PW w pb s 0 W → Calls Tryz.prog 112 #[.pointer (some ⟨pb,0,none⟩)] W (TreeAt pb s t j W)):=hid fun W hw => ((read_c (s.size + 1) 0 W (by omega) (h.next hw (by omega))).2).mono fun e w' hh => hh.ok hr
 have HP0:=hid h.pw
 have hsz:=h.sz
 have HB : Hid (Below w.heap.size w (((w.alloc (.cells #[.slice none 0 0] 73)).alloc (.cells #[.int .i64 0] 3)).alloc (.cells #[.nilIface] 36))):=hid ((((Below.refl _ _).alloc (Nat.le_refl _) _).alloc (by simp) _).alloc (by simp;omega) _)
 have hmf : ∀ (fn : Fn) (first cap : Array Value) (w : World),(Instr.makeFunc fn first cap).run Tryz.prog w = .ok (.func fn first cap) w:=fun _ _ _ _ => rfl
 unfold SWholeIs
 have HR:=hid hr
 obtain ⟨N,hN⟩ : ∃ N,N = (flat t).length:=⟨_,rfl⟩
 have HN:=hid hN
 unfold TreeAt at HOR
 rw [← hN] at HOR
 clear h hr hN
 have hpb:=HP0.out.lt
 go_enter_defers Tryz.func75,Tryz.ntmps75
 go_wp2_with fail
 refine (HOR.out _ (HP0.out.below HB.out)).mono ?_
 rintro e w1 ⟨g,cap,rfl,ho,hp⟩
 have hg:=hp.grow
 have b2 : Blk w1 w.heap.size 73 #[.slice none 0 0]:=Blk.past (((Blk.new w 73 #[.slice none 0 0]).alloc (.cells #[.int .i64 0] 3)).alloc (.cells #[.nilIface] 36)) hg (by omega)
 have b3 : Blk w1 (w.heap.size + 1) 3 #[.int .i64 0]:=Blk.past ((Blk.new_at (w.alloc (.cells #[.slice none 0 0] 73)) 3 #[.int .i64 0] (w.heap.size + 1) (by simp)).alloc (.cells #[.nilIface] 36)) hg (by omega)
 have b4 : Blk w1 (w.heap.size + 2) 36 #[.nilIface]:=Blk.past (Blk.new_at ((w.alloc (.cells #[.slice none 0 0] 73)).alloc (.cells #[.int .i64 0] 3)) 36 #[.nilIface] (w.heap.size + 2) (by simp)) hg (by omega)
 have x2:=b2.cell 0
 have x3:=b3.cell 0
 have x4:=b4.cell 0
 have y2:=b2.frozen 0
 have y3:=b3.frozen 0
 have y4:=b4.frozen 0
 have z0:=hp.c0
 have z1:=hp.c1
 simp only [List.getElem?_toArray,List.getElem?_cons_succ,List.getElem?_cons_zero] at x2 x3 x4
 have B2:=hid b2
 have B3:=hid b3
 have B4:=hid b4
 have HP:=hid hp
 have HO:=hid ho
 have HG:=hid hg
 have hne : ¬ w.heap.size = pb:=by omega
 have hne2 : ¬ pb = w.heap.size:=by omega
 clear b2 b3 b4 hp ho hg
 by_cases hj : j < s.size
 ·have hd : decide ((j : Int) < (s.size : Int)) = true:=by simp;omega
  have hd2 : decide (j < s.size) = true:=by simpa using hj
  go_wp2_with fail
  go_quiet (fail)
  go_wp2_with fail
  have n2:=Blk.drewN (B2.out.set_ 0 (.slice (some ⟨g,0,none⟩) N cap)) nq
  have n3:=Blk.drewN (B3.out.far (p:=⟨w.heap.size,0,none⟩) (show w.heap.size + 1 ≠ w.heap.size by omega) (.slice (some ⟨g,0,none⟩) N cap)) nq
  have n4:=Blk.drewN (B4.out.far (p:=⟨w.heap.size,0,none⟩) (show w.heap.size + 2 ≠ w.heap.size by omega) (.slice (some ⟨g,0,none⟩) N cap)) nq
  have HBS:=hid (below_drewN ((Below.refl w.heap.size w1).setCell (Nat.le_refl _) (p:=⟨w.heap.size,0,none⟩) (.slice (some ⟨g,0,none⟩) N cap)) nq)
  refine leaves_cons (f:=111) (args:=#[.pointer (some ⟨w.heap.size,0,none⟩),.pointer (some ⟨w.heap.size + 1,0,none⟩),.pointer (some ⟨w.heap.size + 2,0,none⟩)]) (by simp) (by simp [go_sem]) ?_
  refine (catch_stop w.heap.size j _ _ _ _ n2 n3 n4).mono ?_
  rintro e u' w2 ⟨rfl,rfl,m2,m3,m4,hb⟩
  have c2:=m2.cell 0
  have c3:=m3.cell 0
  have c4:=m4.cell 0
  simp only [List.getElem?_toArray,List.getElem?_cons_succ,List.getElem?_cons_zero] at c2 c3 c4
  have HFIN:=hid (grown_out HB.out HG.out (HBS.out.trans hb))
  clear n2 n3 n4 m2 m3 m4 hb x2 x3 x4 y2 y3 y4 z0 z1 hd hd2
  simp [Leaves,settle,results,Tryz.results75,go_sem,c2,c3,c4]
  exact ⟨j,.inr ⟨⟨t,HR.out⟩,by omega⟩,rfl,HFIN.out⟩
 ·have hd : decide ((j : Int) < (s.size : Int)) = false:=by simp;omega
  have hd2 : decide (j < s.size) = false:=by simpa using hj
  go_wp2_with fail
  go_quiet (fail)
  go_wp2_with fail
  obtain rfl : j = s.size:=by omega
  have n2:=(((Blk.drewN (B2.out.set_ 0 (.slice (some ⟨g,0,none⟩) N cap)) nq).set_ 0 (.slice (some ⟨g,0,none⟩) N cap)).far (p:=⟨w.heap.size + 1,0,none⟩) (show w.heap.size ≠ w.heap.size + 1 by omega) (.int .i64 0)).far (p:=⟨w.heap.size + 1 + 1,0,none⟩) (show w.heap.size ≠ w.heap.size + 1 + 1 by omega) .nilIface
  have n3:=(((Blk.drewN (B3.out.far (p:=⟨w.heap.size,0,none⟩) (show w.heap.size + 1 ≠ w.heap.size by omega) (.slice (some ⟨g,0,none⟩) N cap)) nq).far (p:=⟨w.heap.size,0,none⟩) (show w.heap.size + 1 ≠ w.heap.size by omega) (.slice (some ⟨g,0,none⟩) N cap)).set_ 0 (.int .i64 0)).far (p:=⟨w.heap.size + 1 + 1,0,none⟩) (show w.heap.size + 1 ≠ w.heap.size + 1 + 1 by omega) .nilIface
  have n4:=(((Blk.drewN (B4.out.far (p:=⟨w.heap.size,0,none⟩) (show w.heap.size + 2 ≠ w.heap.size by omega) (.slice (some ⟨g,0,none⟩) N cap)) nq).far (p:=⟨w.heap.size,0,none⟩) (show w.heap.size + 2 ≠ w.heap.size by omega) (.slice (some ⟨g,0,none⟩) N cap)).far (p:=⟨w.heap.size + 1,0,none⟩) (show w.heap.size + 2 ≠ w.heap.size + 1 by omega) (.int .i64 0)).set_ 0 .nilIface
  have ho3 : OwnT w1 (w.heap.size + 3) (.slice (some ⟨g,0,none⟩) N cap) (flat t):=by have:=HO.out;simpa using this
  have ho5:=((((ho3.set w.heap.size 0 (.slice (some ⟨g,0,none⟩) N cap) (by omega)).drewN nq).set w.heap.size 0 (.slice (some ⟨g,0,none⟩) N cap) (by omega)).set (w.heap.size + 1) 0 (.int .i64 0) (by omega)).set (w.heap.size + 1 + 1) 0 .nilIface (by omega)
  have HBS:=hid ((((below_drewN ((Below.refl w.heap.size w1).setCell (Nat.le_refl _) (p:=⟨w.heap.size,0,none⟩) (.slice (some ⟨g,0,none⟩) N cap)) nq).setCell (Nat.le_refl _) (p:=⟨w.heap.size,0,none⟩) (.slice (some ⟨g,0,none⟩) N cap)).setCell (p:=⟨w.heap.size + 1,0,none⟩) (by simp) (.int .i64 0)).setCell (p:=⟨w.heap.size + 1 + 1,0,none⟩) (by simp;omega) .nilIface)
  refine leaves_cons (f:=111) (args:=#[.pointer (some ⟨w.heap.size,0,none⟩),.pointer (some ⟨w.heap.size + 1,0,none⟩),.pointer (some ⟨w.heap.size + 2,0,none⟩)]) (by simp) (by simp [go_sem]) ?_
  refine (catch_idle ⟨w.heap.size,0,none⟩ ⟨w.heap.size + 1,0,none⟩ ⟨w.heap.size + 2,0,none⟩ _).mono ?_
  rintro e u' w2 ⟨rfl,rfl,hb⟩
  have c2 : w2.cell? ⟨w.heap.size,0,none⟩ = some (.slice (some ⟨g,0,none⟩) N cap):=(n2.kept hb).cell 0
  have c3 : w2.cell? ⟨w.heap.size + 1,0,none⟩ = some (.int .i64 0):=(n3.kept hb).cell 0
  have c4 : w2.cell? ⟨w.heap.size + 2,0,none⟩ = some .nilIface:=(n4.kept hb).cell 0
  have HOF:=hid ((ho5.below hb).base (show w.heap.size ≤ w.heap.size + 3 by omega))
  have HFIN:=hid (grown_out HB.out HG.out (HBS.out.trans (hb.mono (Nat.le_trans (Nat.le_trans HB.out.size HG.out.size) HBS.out.size))))
  clear n2 n3 n4 ho3 ho5 hb x2 x3 x4 y2 y3 y4 z0 z1 hd hd2
  simp [Leaves,settle,results,Tryz.results75,go_sem,c2,c3,c4]
  exact ⟨t,HR.out,g,cap,⟨rfl,HN.out,rfl⟩,by rw [← HN.out];exact HOF.out,HFIN.out⟩
theorem whole_c {ev : Value} {pb : Nat} {s : ByteArray} (w : World) (h : PIn ev pb s 0 w) :
 Calls Tryz.prog 75 #[.pointer (some ⟨pb,0,none⟩)] w (SWholeIs (orS s.data.toList 0) s pb w):=by
 cases hr : orS s.data.toList 0 with
 | bad k => rw [← hr];exact whole_bad w h hr
 | ok t j => rw [← hr];exact whole_ok w h (orS_le hr (by omega)) hr
def ParseIs (s : ByteArray) (w : World) (e : Ending) (w' : World) : Prop:=Below w.heap.size w w' ∧
 ((200 < s.size ∧ e = .returned (.tuple #[.slice none 0 0,.int .i64 0,.iface 81 (.int .i64 3)])) ∨
  (s.size ≤ 200 ∧ ∃ t,orS s.data.toList 0 = .ok t s.size ∧ 60 < (flat t).length ∧ e = .returned (.tuple #[.slice none 0 0,.int .i64 0,.iface 81 (.int .i64 3)])) ∨
  (s.size ≤ 200 ∧ ∃ t g cap,orS s.data.toList 0 = .ok t s.size ∧ (flat t).length ≤ 60 ∧ e = .returned (.tuple #[.slice (some ⟨g,0,none⟩) (flat t).length cap,.int .i64 0,.nilIface]) ∧ OwnT w' w.heap.size (.slice (some ⟨g,0,none⟩) (flat t).length cap) (flat t)) ∨
  (s.size ≤ 200 ∧ ∃ k : Nat,(orS s.data.toList 0 = .bad k ∨ ∃ t,orS s.data.toList 0 = .ok t k ∧ k ≠ s.size) ∧ e = .returned (.tuple #[.slice none 0 0,.int .i64 (k : Int),.iface 81 (.int .i64 5)])))
theorem Parse_c {ev : Value} (s : ByteArray) (w : World) (hev : SynE ev w) :
 Calls Tryz.prog 47 #[.string s] w (ParseIs s w):=by
 by_cases hs : 200 < s.size
 ·have hd : decide ((200 : Int) < (s.size : Int)) = true:=by simp;omega
  have hd2 : (200 : Int) < (s.size : Int):=by omega
  unfold ParseIs
  clear hev
  go_enter Tryz.func47,Tryz.ntmps47
  go_wp2
  refine bodyPost_ret (v:=.tuple #[.slice none 0 0,.int .i64 0,.iface 81 (.int .i64 3)]) (by simp [results,Tryz.results47,go_sem]) rfl ?_
  exact ⟨Below.refl _ _,.inl ⟨hs,rfl⟩⟩
 ·have hd : decide ((200 : Int) < (s.size : Int)) = false:=by simp;omega
  have hb0 : Below w.heap.size w (w.alloc (.cells #[.string s,.int .i64 0] 135)):=(Below.refl _ _).alloc (Nat.le_refl _) _
  have hlt : 3 < w.heap.size:=World.block_lt_of_cell? w _ hev.1
  have HW : Hid (Calls Tryz.prog 75 #[.pointer (some ⟨w.heap.size,0,none⟩)] (w.alloc (.cells #[.string s,.int .i64 0] 135)) (SWholeIs (orS s.data.toList 0) s w.heap.size (w.alloc (.cells #[.string s,.int .i64 0] 135)))):=hid (whole_c (ev:=ev) _ ⟨PW.start (Blk.new w _ _),by omega,by omega,⟨(hb0.cell (p:=⟨3,0,none⟩) hlt).trans hev.1,hev.2⟩,by omega⟩)
  have HB0:=hid hb0
  unfold SWholeIs at HW
  unfold ParseIs
  clear hev hb0 hlt
  go_enter Tryz.func47,Tryz.ntmps47
  go_wp2_with fail
  refine HW.out.mono ?_
  rintro e w1 (⟨t,g,cap,hr,rfl,ho,hg⟩ | ⟨k,hr,rfl,hg⟩)
  ·have hb1 : Below w.heap.size w w1:=⟨hg.os.trans HB0.out.os,hg.tape.trans HB0.out.tape,hg.output.trans HB0.out.output,Nat.le_trans HB0.out.size hg.size,fun q hq => (hg.block q (by simp;omega) (fun e => by have:=Option.some.inj e;omega)).trans (HB0.out.block q hq)⟩
   have HB1:=hid hb1
   have HO:=hid (ho.base HB0.out.size)
   have HR:=hid hr
   obtain ⟨N,hN⟩ : ∃ N,N = (flat t).length:=⟨_,rfl⟩
   have HN:=hid hN
   rw [← hN]
   clear hr ho hg hb1 hN
   by_cases h60 : 60 < N
   ·have hd3 : decide ((60 : Int) < (N : Int)) = true:=by simp;omega
    go_wp2_with fail
    refine bodyPost_ret (v:=.tuple #[.slice none 0 0,.int .i64 0,.iface 81 (.int .i64 3)]) (by simp [results,Tryz.results47,go_sem]) rfl ?_
    exact ⟨HB1.out,.inr (.inl ⟨by omega,t,HR.out,by rw [← HN.out];exact h60,rfl⟩)⟩
   ·have hd3 : decide ((60 : Int) < (N : Int)) = false:=by simp;omega
    go_wp2_with fail
    refine bodyPost_ret (v:=.tuple #[.slice (some ⟨g,0,none⟩) N cap,.int .i64 0,.nilIface]) (by simp [results,Tryz.results47,go_sem]) rfl ?_
    exact ⟨HB1.out,.inr (.inr (.inl ⟨by omega,t,g,cap,HR.out,by rw [← HN.out];omega,by rw [← HN.out],by have:=HO.out;exact this⟩))⟩
  ·have hb1 : Below w.heap.size w w1:=⟨hg.os.trans HB0.out.os,hg.tape.trans HB0.out.tape,hg.output.trans HB0.out.output,Nat.le_trans HB0.out.size hg.size,fun q hq => (hg.block q (by simp;omega) (fun e => by have:=Option.some.inj e;omega)).trans (HB0.out.block q hq)⟩
   have HB1:=hid hb1
   have HR:=hid hr
   clear hr hg hb1
   go_wp2_with fail
   refine bodyPost_ret (v:=.tuple #[.slice none 0 0,.int .i64 (k : Int),.iface 81 (.int .i64 5)]) (by simp [results,Tryz.results47,go_sem]) rfl ?_
   exact ⟨HB1.out,.inr (.inr (.inr ⟨by omega,k,HR.out,rfl⟩))⟩
end Go.Proofs.YthhcpbfgoofppaaGreatDoor
