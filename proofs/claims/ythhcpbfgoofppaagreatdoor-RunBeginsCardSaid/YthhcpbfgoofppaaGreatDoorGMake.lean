/-
  MakeA, MakeB, StepC.
-/
import Derived.Test.YthhcpbfgoofppaaGreatDoorGRun
import Derived.Test.YthhcpbfgoofppaaGreatDoorGSim
import Derived.Deep.AppendLies
import Derived.Deep.RegionLaw
set_option linter.unusedVariables false
set_option linter.unusedSimpArgs false
set_option maxRecDepth 100000
set_option maxHeartbeats 8000000
open Go.Lib (hid)
namespace Go.Proofs.YthhcpbfgoofppaaGreatDoor
open Go.RowKit Wf
theorem info_step : (Tryz.prog.info? 262).map (fun i => (i.zero,i.size,i.bytes)) = some (some (.agg #[.int .i64 0,.int .u64 0,.int .u64 0,.int .u64 0,.int .u64 0,.int .i64 0,.int .i64 0]),7,56):=by kernel_rfl
structure Fm (M : Nat) (w w' : World) : Prop where
 size : w.heap.size ≤ w'.heap.size
 kept : ∀ k cs t fr,w.heap[k]? = some (.cells cs t fr) → t ≠ 262 → k ≠ M → w'.heap[k]? = w.heap[k]?
theorem Fm.refl (M : Nat) (w : World) : Fm M w w:=⟨Nat.le_refl _,fun _ _ _ _ _ _ _ => rfl⟩
theorem Fm.trans {M : Nat} {a b c : World} (h : Fm M a b) (k : Fm M b c) : Fm M a c :=
 ⟨Nat.le_trans h.size k.size,fun i cs t fr hi ht hM => by
   have:=h.kept i cs t fr hi ht hM
   rw [k.kept i cs t fr (this.trans hi) ht hM,this]⟩
theorem Fm.below {M : Nat} {w w' : World} (h : Below w.heap.size w w') : Fm M w w':=⟨h.size,fun k cs t fr hk _ _ => h.block k (Array.getElem?_eq_some_iff.1 hk).1⟩
theorem Fm.setM (M : Nat) (w : World) (j : Nat) (v : Value) : Fm M w (w.setCell ⟨M,j,none⟩ v) :=
 ⟨by simp,fun k cs t fr _ _ hM => Below.heap_setCell _ _ _ k (fun e => hM (by rw [e]))⟩
theorem Fm.grown {M base n : Nat} {w w' : World} {v : Value} {xs : List Value} (ho : w.ownsRow base 262 7 v n xs) (hg : w.grownBy w' v.ownBlock) : Fm M w w' :=
 ⟨hg.size,fun k cs t fr hk ht _ => hg.block k (Array.getElem?_eq_some_iff.1 hk).1 (fun e => by
   rcases ho.2 with ⟨rfl,_⟩ | ⟨g,cap,cur,rfl,_,hh,_⟩
   ·simp [Value.ownBlock] at e
   ·obtain rfl : k = g:=by simpa [Value.ownBlock] using e
    rw [hk] at hh;cases hh;exact ht rfl)⟩
theorem Blk.fm {M : Nat} {w w' : World} {k : Nat} {t : TypeId} {cs : Array Value} (h : Blk w k t cs) (hf : Fm M w w') (ht : t ≠ 262) (hM : k ≠ M) : Blk w' k t cs:=(hf.kept k cs t _ h ht hM).trans h
structure MEnv (w0 : World) (b off ln cap M : Nat) (i : Nat) (S : List St) (v : Value) (w : World) : Prop where
 mb : Blk w M 259 #[.slice (some ⟨b,off,none⟩) ln cap,.int .i64 (i : Int),v]
 own : w.ownsRow (M + 1) 262 7 v S.length (S.flatMap stCells)
 bel : Below w0.heap.size w0 w
 base : w0.heap.size ≤ M
section
variable {w0 : World} {b off ln cap M i : Nat} {S : List St} {v : Value} {w w' : World}
theorem MEnv.below (h : MEnv w0 b off ln cap M i S v w) (hb : Below w.heap.size w w') : MEnv w0 b off ln cap M i S v w' :=
 ⟨h.mb.kept hb,h.own.kept (row:=none) ⟨hb.os,hb.tape,hb.output,hb.size,fun q hq _ => hb.block q hq⟩ (by cases v.ownBlock <;> simp),h.bel.trans (hb.mono h.bel.size),h.base⟩
theorem MEnv.alloc (h : MEnv w0 b off ln cap M i S v w) (o : Obj) : MEnv w0 b off ln cap M i S v (w.alloc o):=h.below ((Below.refl _ _).alloc (Nat.le_refl _) _)
theorem MEnv.cast {i' : Nat} {S' : List St} (h : MEnv w0 b off ln cap M i S v w) (hi : i = i') (hS : S = S') : MEnv w0 b off ln cap M i' S' v w:=by subst hi;subst hS;exact h
theorem MEnv.drew (h : MEnv w0 b off ln cap M i S v w) : MEnv w0 b off ln cap M i S v w.drew:=h.below (Below.refl _ _).drew
theorem MEnv.at_ (h : MEnv w0 b off ln cap M i S v w) (i' : Nat) (x : Int) (hx : x = (i' : Int)) : MEnv w0 b off ln cap M i' S v (w.setCell ⟨M,1,none⟩ (.int .i64 x)):=by
 subst hx
 refine ⟨?_,?_,h.bel.setCell h.base _,h.base⟩
 ·have:=h.mb.set_ 1 (.int .i64 (i' : Int))
  simpa using this
 ·exact ownsRow_setCell_below h.own (Nat.lt_succ_self _) _
theorem MEnv.take (h : MEnv w0 b off ln cap M i S v w) {s : St} {v' : Value} (hown' : w'.ownsRow (M + 1) 262 7 v' (S.length + 1) (S.flatMap stCells ++ stCells s)) (hg : w.grownBy w' v.ownBlock) :
 w'.cell? ⟨M,2,none⟩ = some v ∧ w'.frozen? ⟨M,2,none⟩ = false ∧ MEnv w0 b off ln cap M i (S ++ [s]) v' (w'.setCell ⟨M,2,none⟩ v'):=by
 have hlt:=fun q hq => h.own.lt q hq
 have hmk : Blk w' M 259 #[.slice (some ⟨b,off,none⟩) ln cap,.int .i64 (i : Int),v]:=(hg.block M h.mb.lt (fun e => by have:=(hlt M e.symm).1;omega)).trans h.mb
 refine ⟨hmk.cell 2,hmk.frozen 2,?_,?_,?_,h.base⟩
 ·have:=hmk.set_ 2 v'
  simpa using this
 ·have:=ownsRow_setCell_below hown' (a:=⟨M,2,none⟩) (Nat.lt_succ_self _) v'
  simpa using this
 ·have hb : Below w0.heap.size w0 w':=⟨hg.os.trans h.bel.os,hg.tape.trans h.bel.tape,hg.output.trans h.bel.output,Nat.le_trans h.bel.size hg.size,fun k hk =>
   (hg.block k (Nat.lt_of_lt_of_le hk h.bel.size) (fun e => by have:=(hlt k e.symm).1;have:=h.base;omega)).trans (h.bel.block k hk)⟩
  exact hb.setCell h.base _
end
theorem set_mid (S C : List St) (x y : St) : (S ++ [x] ++ C).set S.length y = S ++ [y] ++ C:=by
 rw [List.append_assoc,List.set_append_right _ _ (Nat.le_refl _)]
 simp
theorem flat_setX : ∀ (S : List St) (k : Nat) (op : Int) (c : Cls) (x y x' : Int),S[k]? = some ⟨op,c,x,y⟩ → (S.flatMap stCells).set (k * 7 + 5) (.int .i64 x') = (S.set k ⟨op,c,x',y⟩).flatMap stCells:=by
 intro S
 induction S with
 | nil => intro k op c x y x' h;simp at h
 | cons a r ih =>
   intro k op c x y x' h
   rcases k with _ | k
   ·simp at h
    subst h
    simp [stCells]
   ·simp only [List.flatMap_cons,List.set_cons_succ]
    rw [← ih k op c x y x' (by simpa using h)]
    rw [List.set_append_right _ _ (by simp [stCells];omega)]
    congr 1
    have e : (k + 1) * 7 + 5 - (stCells a).length = k * 7 + 5:=by simp [stCells];omega
    rw [e]
theorem flat_setY : ∀ (S : List St) (k : Nat) (op : Int) (c : Cls) (x y y' : Int),S[k]? = some ⟨op,c,x,y⟩ → (S.flatMap stCells).set (k * 7 + 6) (.int .i64 y') = (S.set k ⟨op,c,x,y'⟩).flatMap stCells:=by
 intro S
 induction S with
 | nil => intro k op c x y y' h;simp at h
 | cons a r ih =>
   intro k op c x y y' h
   rcases k with _ | k
   ·simp at h
    subst h
    simp [stCells]
   ·simp only [List.flatMap_cons,List.set_cons_succ]
    rw [← ih k op c x y y' (by simpa using h)]
    rw [List.set_append_right _ _ (by simp [stCells];omega)]
    congr 1
    have e : (k + 1) * 7 + 6 - (stCells a).length = k * 7 + 6:=by simp [stCells];omega
    rw [e]
theorem own_set {w : World} {base size n g cap : Nat} {e : TypeId} {xs : List Value} (h : w.ownsRow base e size (.slice (some ⟨g,0,none⟩) n cap) n xs) (j : Nat) (u : Value) :
 (w.setCell ⟨g,j,none⟩ u).ownsRow base e size (.slice (some ⟨g,0,none⟩) n cap) n (xs.set j u):=by
 refine ⟨by rw [List.length_set];exact h.1,?_⟩
 rcases h.2 with ⟨h0,_⟩ | ⟨g',cap',cur,hv,h1,h2,h3,h4,h5,h6⟩
 ·cases h0
 ·injection hv with e1 e2 e3
  injection e1 with e1
  injection e1 with e1
  subst e1
  subst e3
  refine .inr ⟨g,cap,cur.setIfInBounds j u,rfl,h1,(show Blk w g e cur from h2).set_ j u,h3,h4,by rw [Array.size_setIfInBounds];exact h5,?_⟩
  rw [Array.toList_setIfInBounds,← h6,List.take_set]
section
variable {w0 : World} {b off ln cap M i : Nat} {S : List St} {v : Value} {w w' : World}
theorem MEnv.form (h : MEnv w0 b off ln cap M i S v w) (hS : 0 < S.length) : ∃ g c,v = .slice (some ⟨g,0,none⟩) S.length c:=by
 rcases h.own.2 with ⟨_,h0⟩ | ⟨g,c,cur,hv,_⟩
 ·omega
 ·exact ⟨g,c,hv⟩
theorem MEnv.step {g c : Nat} (h : MEnv w0 b off ln cap M i S (.slice (some ⟨g,0,none⟩) S.length c) w) : M < g ∧ g < w.heap.size ∧ S.length ≤ c ∧ c ≤ 9223372036854775807 ∧ (∀ j,w.frozen? ⟨g,j,none⟩ = false) ∧
 ∀ k s,S[k]? = some s → w.cell? ⟨g,k * 7 + 5,none⟩ = some (.int .i64 s.x) ∧ w.cell? ⟨g,k * 7 + 6,none⟩ = some (.int .i64 s.y):=by
 rcases h.own.2 with ⟨h0,_⟩ | ⟨g',c',cur,hv,h1,h2,h3,h4,h5,h6⟩
 ·cases h0
 ·injection hv with e1 e2 e3
  injection e1 with e1
  injection e1 with e1
  subst e1
  subst e3
  have hb : Blk w g 262 cur:=h2
  refine ⟨h1,hb.lt,h3,by unfold maxLen at h4;omega,fun j => hb.frozen j,fun k s hk => ?_⟩
  have hkl:=(List.getElem?_eq_some_iff.1 hk).1
  have key : ∀ j,j < 7 → cur[k * 7 + j]? = (stCells s)[j]?:=fun j hj => by
   rw [← stFlat_get S k j s hk hj,← h6,List.getElem?_take,if_pos (by omega),Array.getElem?_toList]
  rw [hb.cell,hb.cell,key 5 (by omega),key 6 (by omega)]
  exact ⟨rfl,rfl⟩
theorem MEnv.setCell_ {g c : Nat} {S' : List St} (h : MEnv w0 b off ln cap M i S (.slice (some ⟨g,0,none⟩) S.length c) w) (j : Nat) (u : Value) (hl : S'.length = S.length) (he : (S.flatMap stCells).set j u = S'.flatMap stCells) :
 MEnv w0 b off ln cap M i S' (.slice (some ⟨g,0,none⟩) S.length c) (w.setCell ⟨g,j,none⟩ u):=by
 have hg:=h.step.1
 refine ⟨h.mb.far (by simp;omega) u,?_,h.bel.setCell (by show w0.heap.size ≤ g;have:=h.base;omega) u,h.base⟩
 rw [← he,hl]
 exact own_set h.own j u
theorem MEnv.setY {g c k : Nat} {op x y : Int} {cl : Cls} (h : MEnv w0 b off ln cap M i S (.slice (some ⟨g,0,none⟩) S.length c) w) (hk : S[k]? = some ⟨op,cl,x,y⟩) (y' : Int) :
 MEnv w0 b off ln cap M i (S.set k ⟨op,cl,x,y'⟩) (.slice (some ⟨g,0,none⟩) S.length c) (w.setCell ⟨g,k * 7 + 6,none⟩ (.int .i64 y')) :=
 h.setCell_ _ _ (by simp) (flat_setY S k op cl x y y' hk)
theorem MEnv.setXY {g c k : Nat} {op x y : Int} {cl : Cls} (h : MEnv w0 b off ln cap M i S (.slice (some ⟨g,0,none⟩) S.length c) w) (hk : S[k]? = some ⟨op,cl,x,y⟩) (x' y' : Int) :
 MEnv w0 b off ln cap M i (S.set k ⟨op,cl,x',y'⟩) (.slice (some ⟨g,0,none⟩) S.length c) ((w.setCell ⟨g,k * 7 + 5,none⟩ (.int .i64 x')).setCell ⟨g,k * 7 + 6,none⟩ (.int .i64 y')):=by
 have h1:=h.setCell_ (S':=S.set k ⟨op,cl,x',y⟩) _ _ (by simp) (flat_setX S k op cl x y x' hk)
 rw [show S.length = (S.set k ⟨op,cl,x',y⟩).length by simp] at h1 ⊢
 have hkl:=(List.getElem?_eq_some_iff.1 hk).1
 have h2:=h1.setY (k:=k) (op:=op) (cl:=cl) (x:=x') (y:=y) (by simp [hkl]) y'
 rw [List.set_set] at h2
 exact h2
theorem Fm.row {M g : Nat} {w : World} (hb : ∃ cur,Blk w g 262 cur) (j : Nat) (u : Value) : Fm M w (w.setCell ⟨g,j,none⟩ u) :=
 ⟨by simp,fun k cs t fr hk ht _ => Below.heap_setCell _ _ _ k (fun e => by
   obtain ⟨cur,hc⟩:=hb
   have e2 : k = g:=e
   subst e2
   rw [show w.heap[k]? = _ from hc] at hk
   cases hk
   exact ht rfl)⟩
theorem MEnv.row {g c : Nat} (h : MEnv w0 b off ln cap M i S (.slice (some ⟨g,0,none⟩) S.length c) w) : ∃ cur,Blk w g 262 cur:=by
 rcases h.own.2 with ⟨h0,_⟩ | ⟨g',c',cur,hv,h1,h2,h3,h4,h5,h6⟩
 ·cases h0
 ·injection hv with e1 e2 e3
  injection e1 with e1
  injection e1 with e1
  subst e1
  exact ⟨cur,h2⟩
end
def EmitIs (w0 : World) (b off ln cap M i : Nat) (S : List St) (s : St) (w : World) (e : Ending) (w' : World) : Prop :=
 e = .returned (.int .i64 (S.length : Int)) ∧ ∃ v',MEnv w0 b off ln cap M i (S ++ [s]) v' w' ∧ Fm M w w'
theorem next_any (w0 : World) (b off ln cap M i : Nat) (S : List St) (v : Value) (w : World) (h : MEnv w0 b off ln cap M i S v w) :
 Calls Tryz.prog 184 #[.pointer (some ⟨M,0,none⟩)] w (fun e w' => e = .returned (.int .i64 (S.length : Int)) ∧ w = w'):=by
 have c2:=h.mb.cell 2
 obtain ⟨VA,vn,vcap,rfl,_,_,hvl,_⟩:=Rd.of_own h.own
 obtain rfl : vn = S.length:=by rw [stFlat_len] at hvl;omega
 simp only [List.getElem?_toArray,List.getElem?_cons_succ,List.getElem?_cons_zero] at c2
 clear h hvl
 go_enter Tryz.func184,Tryz.ntmps184
 go_wp2
 go_ret
 exact ⟨rfl,rfl⟩
theorem step_news (W : World) (g : Nat) (hg : W.heap.size = g) (op x y : Int) (k0 k1 k2 k3 : Nat) : ∀ (j : Nat) (u : Value),(stCells ⟨op,(k0,k1,k2,k3),x,y⟩)[j]? = some u →
 (W.alloc (.cells #[.int .i64 op,.int .u64 (k0 : Int),.int .u64 (k1 : Int),.int .u64 (k2 : Int),.int .u64 (k3 : Int),.int .i64 x,.int .i64 y] 262)).cell? ((⟨g,0,none⟩ : Addr).add j) = some u:=by
 intro j u hu
 subst hg
 rw [add_mk,Nat.zero_add,(Blk.new W _ _).cell]
 simpa [stCells] using hu
theorem stCells_one (s : St) : ∀ u ∈ stCells s,u.oneCell' = true:=by
 intro u hu
 simp only [stCells,List.mem_cons,List.not_mem_nil,or_false] at hu
 rcases hu with rfl | rfl | rfl | rfl | rfl | rfl | rfl <;> rfl
theorem emit_any (w0 : World) (b off ln cap M i : Nat) (S : List St) (v : Value) (op x y : Int) (k0 k1 k2 k3 : Nat) (w : World) (hS : S.length ≤ 1000) (h : MEnv w0 b off ln cap M i S v w) :
 Calls Tryz.prog 160 #[.pointer (some ⟨M,0,none⟩),.agg #[.int .i64 op,.int .u64 (k0 : Int),.int .u64 (k1 : Int),.int .u64 (k2 : Int),.int .u64 (k3 : Int),.int .i64 x,.int .i64 y]] w (EmitIs w0 b off ln cap M i S ⟨op,(k0,k1,k2,k3),x,y⟩ w):=by
 obtain ⟨i0,hi0,hz0,hz1,hz2⟩:=info_parts info_step
 have H:=hid (h.alloc (.cells #[.int .i64 op,.int .u64 (k0 : Int),.int .u64 (k1 : Int),.int .u64 (k2 : Int),.int .u64 (k3 : Int),.int .i64 x,.int .i64 y] 262))
 have HSB:=hid (Blk.new w 262 #[.int .i64 op,.int .u64 (k0 : Int),.int .u64 (k1 : Int),.int .u64 (k2 : Int),.int .u64 (k3 : Int),.int .i64 x,.int .i64 y])
 have hM:=h.mb.lt
 clear h
 go_enter Tryz.func160,Tryz.ntmps160
 go_wp2_with fail
 have c2a : (w.alloc (.cells #[.int .i64 op,.int .u64 (k0 : Int),.int .u64 (k1 : Int),.int .u64 (k2 : Int),.int .u64 (k3 : Int),.int .i64 x,.int .i64 y] 262)).cell? ⟨M,2,none⟩ = some v:=H.out.mb.cell 2
 have c2b:=fun o => (H.out.drew.alloc o).mb.cell 2
 simp only [List.getElem?_toArray,List.getElem?_cons_succ,List.getElem?_cons_zero] at c2b
 go_region_law (refine step_append_lies _ rfl (.tmp 9) (.tmp 11) 228 rfl (M + 1) 262 i0 _ 7 56 Tryz.underlying228 hi0 hz0 hz1 hz2 rfl (by decide) v S.length (S.flatMap stCells) ?a1 (H.out.drew.alloc _).own ⟨w.heap.size + 1,0,none⟩ 1 1 (stCells ⟨op,(k0,k1,k2,k3),x,y⟩) ?a2 rfl (step_news _ _ ?a3 _ _ _ _ _ _ _) (stCells_one _) ?a4 ?a5 ?a6 ?a7 _ rfl ?_;(case a1 => simp [Act.eval,Act.put]);(case a2 => simp [Act.eval,Act.put]);(case a3 => simp);(case a4 => omega);(case a5 => unfold maxLen;omega);(case a6 => omega);(case a7 => simp;omega);intro g cp w1 hown hg hat hlt;obtain ⟨e2,f2,henv⟩:=(H.out.alloc (.cells #[.int .i64 op,.int .u64 (k0 : Int),.int .u64 (k1 : Int),.int .u64 (k2 : Int),.int .u64 (k3 : Int),.int .i64 x,.int .i64 y] 262)).drew.take hown hg;have hfm:=((Fm.below (M:=M) ((((Below.refl _ w).alloc (Nat.le_refl _) _).alloc (by simp) _).drew)).trans (Fm.grown (H.out.alloc (.cells #[.int .i64 op,.int .u64 (k0 : Int),.int .u64 (k1 : Int),.int .u64 (k2 : Int),.int .u64 (k3 : Int),.int .i64 x,.int .i64 y] 262)).drew.own hg)).trans (Fm.setM M w1 2 (.slice (some ⟨g,0,none⟩) (S.length + 1) cp));have m2:=henv.mb.cell 2;simp only [List.getElem?_toArray,List.getElem?_cons_succ,List.getElem?_cons_zero] at m2;have HENV:=hid henv;have HFM:=hid hfm;clear henv hfm hown hg hat hlt)
 all_goals (
  go_wp2
  go_ret
  exact ⟨by simp,_,HENV.out,HFM.out⟩)
def MakeIs (w0 : World) (b off ln cap M i : Nat) (S : List St) (u : Rx) (w : World) (e : Ending) (w' : World) : Prop :=
 e = .returned (.tuple #[]) ∧ ∃ v',MEnv w0 b off ln cap M (i + (flat u).length) (S ++ code u S.length) v' w' ∧ Fm M w w'
theorem alt_list {S S2 S3 S4 S5 S6 : List St} {a b : Rx} (h2 : S2 = S ++ [(⟨2,(0,0,0,0),(S.length : Int) + 1,0⟩ : St)]) (h3 : S3 = S2 ++ code a S2.length) (h4 : S4 = S3 ++ [(⟨2,(0,0,0,0),0,0⟩ : St)])
 (h5 : S5 = S4.set S.length ⟨2,(0,0,0,0),(S.length : Int) + 1,(S4.length : Int)⟩) (h6 : S6 = S5 ++ code b S5.length) (l3 : S3.length = S.length + 1 + sz a) (l4 : S4.length = S3.length + 1) (l6 : S6.length = S.length + 2 + sz a + sz b) :
 S6.set S3.length ⟨2,(0,0,0,0),(S6.length : Int),(S6.length : Int)⟩ = S ++ code (.alt a b) S.length:=by
 have e4 : S4 = S ++ [(⟨2,(0,0,0,0),(S.length : Int) + 1,0⟩ : St)] ++ (code a (S.length + 1) ++ [(⟨2,(0,0,0,0),0,0⟩ : St)]):=by
  rw [h4,h3,h2];simp
 have l5 : S5.length = S4.length:=by rw [h5];simp
 have e5 : S5 = (S ++ [(⟨2,(0,0,0,0),(S.length : Int) + 1,(S4.length : Int)⟩ : St)] ++ code a (S.length + 1)) ++ [(⟨2,(0,0,0,0),0,0⟩ : St)]:=by
  rw [h5]
  generalize (S4.length : Int) = k
  rw [e4,set_mid];simp
 have lm : S3.length = (S ++ [(⟨2,(0,0,0,0),(S.length : Int) + 1,(S4.length : Int)⟩ : St)] ++ code a (S.length + 1)).length:=by simp [code_len];omega
 have k6 : S6 = (S ++ [(⟨2,(0,0,0,0),(S.length : Int) + 1,(S4.length : Int)⟩ : St)] ++ code a (S.length + 1)) ++ [(⟨2,(0,0,0,0),0,0⟩ : St)] ++ code b (S.length + 1 + sz a + 1):=by
  rw [← e5,h6,l5,show S4.length = S.length + 1 + sz a + 1 by omega]
 have kk : (S6.length : Int) = ((S.length + 1 + sz a + 1 + sz b : Nat) : Int):=by omega
 rw [kk,lm]
 rw [k6,set_mid,show (S4.length : Int) = ((S.length + 1 + sz a + 1 : Nat) : Int) by omega]
 simp [code,zc]
theorem make_all (w0 : World) (l : List Nd) (b off cap M : Nat) (hl60 : l.length ≤ 60) (hcap : l.length ≤ cap) (hcap2 : cap ≤ 9223372036854775807)
 (hcell : ∀ (w' : World),Below w0.heap.size w0 w' → ∀ k n,l[k]? = some n →
   w'.cell? ⟨b,off + k * 5,none⟩ = some (.int .i64 n.op) ∧ w'.cell? ⟨b,off + k * 5 + 1,none⟩ = some (.int .u64 (n.cls.1 : Int)) ∧ w'.cell? ⟨b,off + k * 5 + 2,none⟩ = some (.int .u64 (n.cls.2.1 : Int)) ∧
   w'.cell? ⟨b,off + k * 5 + 3,none⟩ = some (.int .u64 (n.cls.2.2.1 : Int)) ∧ w'.cell? ⟨b,off + k * 5 + 4,none⟩ = some (.int .u64 (n.cls.2.2.2 : Int))) :
 ∀ (u : Rx) (i : Nat) (S : List St) (v : Value) (w : World),At l i u → S.length + sz u ≤ 1000 → MEnv w0 b off l.length cap M i S v w →
  Calls Tryz.prog 159 #[.pointer (some ⟨M,0,none⟩)] w (MakeIs w0 b off l.length cap M i S u w):=by
 have HCELL:=hid hcell
 clear hcell
 intro u
 induction u with
 | byte c =>
   intro i S v w hat hS h
   obtain ⟨k0,k1,k2,k3⟩:=c
   have hlt:=hat.lt
   have hpos:=flat_pos (.byte (k0,k1,k2,k3))
   have hil : (i : Int) < (l.length : Int):=by omega
   have hi0 : (0 : Int) ≤ (i : Int):=by omega
   have c0:=fun o => (h.alloc o).mb.cell 0
   have c1:=fun o => (h.alloc o).mb.cell 1
   have d0:=h.mb.cell 0
   have d1:=h.mb.cell 1
   simp only [List.getElem?_toArray,List.getElem?_cons_succ,List.getElem?_cons_zero] at c0 c1 d0 d1
   have qq:=fun o => HCELL.out _ (h.alloc o).bel i _ hat.byte
   have HN : Hid (Blk (((w.setCell ⟨M,1,none⟩ (.int .i64 ((i : Int) + 1))).alloc (.cells #[.int .i64 1,.int .u64 (k0 : Int),.int .u64 (k1 : Int),.int .u64 (k2 : Int),.int .u64 (k3 : Int)] 114)).drew) w.heap.size 114 #[.int .i64 1,.int .u64 (k0 : Int),.int .u64 (k1 : Int),.int .u64 (k2 : Int),.int .u64 (k3 : Int)]):=hid (blk_at _ _ (by simp) _ _)
   have H:=hid (((h.at_ (i + 1) ((i : Int) + 1) (by simp)).alloc (.cells #[.int .i64 1,.int .u64 (k0 : Int),.int .u64 (k1 : Int),.int .u64 (k2 : Int),.int .u64 (k3 : Int)] 114)).drew)
   have HF:=hid ((Fm.setM M w 1 (.int .i64 ((i : Int) + 1))).trans (Fm.below (M:=M) (((Below.refl _ _).alloc (Nat.le_refl _) (.cells #[.int .i64 1,.int .u64 (k0 : Int),.int .u64 (k1 : Int),.int .u64 (k2 : Int),.int .u64 (k3 : Int)] 114)).drew)))
   obtain ⟨q0,q1,q2,q3,q4⟩:=HCELL.out _ h.bel i _ hat.byte
   have r0:=fun o => (qq o).1
   have r1:=fun o => (qq o).2.1
   have r2:=fun o => (qq o).2.2.1
   have r3:=fun o => (qq o).2.2.2.1
   have r4:=fun o => (qq o).2.2.2.2
   dsimp only [zc] at q0 q1 q2 q3 q4 r0 r1 r2 r3 r4
   have z1:=fun o => (h.alloc o).mb.frozen 1
   have hMw:=h.mb.lt
   clear h qq hat
   go_enter Tryz.func159,Tryz.ntmps159
   go_wp2_with fail
   go_region
   go_wp2_with fail
   refine (next_any _ _ _ _ _ _ _ _ _ _ H.out).mono ?_
   rintro e w1 ⟨rfl,rfl⟩
   have n0:=HN.out.cell 0
   simp only [List.getElem?_toArray,List.getElem?_cons_succ,List.getElem?_cons_zero] at n0
   have n1:=HN.out.cell 1
   have n2:=HN.out.cell 2
   have n3:=HN.out.cell 3
   have n4:=HN.out.cell 4
   simp only [List.getElem?_toArray,List.getElem?_cons_succ,List.getElem?_cons_zero] at n1 n2 n3 n4
   go_wp2_with fail
   refine (emit_any _ _ _ _ _ _ _ S _ 1 ((S.length : Int) + 1) 0 k0 k1 k2 k3 _ (by simp [sz] at hS;omega) H.out).mono ?_
   rintro e w2 ⟨rfl,v2,henv,hfm⟩
   have HE2:=hid henv
   have HF2:=hid (HF.out.trans hfm)
   clear henv hfm
   go_wp2_with fail
   go_end0
   exact ⟨rfl,_,HE2.out.cast (by simp [flat] <;> omega) (by simp [code]),HF2.out⟩
 | empty =>
   intro i S v w hat hS h
   have hlt:=hat.lt
   have hpos:=flat_pos .empty
   have hil : (i : Int) < (l.length : Int):=by omega
   have hi0 : (0 : Int) ≤ (i : Int):=by omega
   have c0:=fun o => (h.alloc o).mb.cell 0
   have c1:=fun o => (h.alloc o).mb.cell 1
   have d0:=h.mb.cell 0
   have d1:=h.mb.cell 1
   simp only [List.getElem?_toArray,List.getElem?_cons_succ,List.getElem?_cons_zero] at c0 c1 d0 d1
   have qq:=fun o => HCELL.out _ (h.alloc o).bel i _ hat.empty
   have HN : Hid (Blk (((w.setCell ⟨M,1,none⟩ (.int .i64 ((i : Int) + 1))).alloc (.cells #[.int .i64 2,.int .u64 ((0 : Nat) : Int),.int .u64 ((0 : Nat) : Int),.int .u64 ((0 : Nat) : Int),.int .u64 ((0 : Nat) : Int)] 114)).drew) w.heap.size 114 #[.int .i64 2,.int .u64 ((0 : Nat) : Int),.int .u64 ((0 : Nat) : Int),.int .u64 ((0 : Nat) : Int),.int .u64 ((0 : Nat) : Int)]):=hid (blk_at _ _ (by simp) _ _)
   have H:=hid (((h.at_ (i + 1) ((i : Int) + 1) (by simp)).alloc (.cells #[.int .i64 2,.int .u64 ((0 : Nat) : Int),.int .u64 ((0 : Nat) : Int),.int .u64 ((0 : Nat) : Int),.int .u64 ((0 : Nat) : Int)] 114)).drew)
   have HF:=hid ((Fm.setM M w 1 (.int .i64 ((i : Int) + 1))).trans (Fm.below (M:=M) (((Below.refl _ _).alloc (Nat.le_refl _) (.cells #[.int .i64 2,.int .u64 ((0 : Nat) : Int),.int .u64 ((0 : Nat) : Int),.int .u64 ((0 : Nat) : Int),.int .u64 ((0 : Nat) : Int)] 114)).drew)))
   obtain ⟨q0,q1,q2,q3,q4⟩:=HCELL.out _ h.bel i _ hat.empty
   have r0:=fun o => (qq o).1
   have r1:=fun o => (qq o).2.1
   have r2:=fun o => (qq o).2.2.1
   have r3:=fun o => (qq o).2.2.2.1
   have r4:=fun o => (qq o).2.2.2.2
   dsimp only [zc] at q0 q1 q2 q3 q4 r0 r1 r2 r3 r4
   have z1:=fun o => (h.alloc o).mb.frozen 1
   have hMw:=h.mb.lt
   clear h qq hat
   go_enter Tryz.func159,Tryz.ntmps159
   go_wp2_with fail
   go_region
   go_wp2_with fail
   refine (next_any _ _ _ _ _ _ _ _ _ _ H.out).mono ?_
   rintro e w1 ⟨rfl,rfl⟩
   have n0:=HN.out.cell 0
   simp only [List.getElem?_toArray,List.getElem?_cons_succ,List.getElem?_cons_zero] at n0
   go_wp2_with fail
   go_end0
   exact ⟨rfl,_,H.out.cast (by simp [flat] <;> omega) (by simp [code]),HF.out⟩
 | bgn =>
   intro i S v w hat hS h
   have hlt:=hat.lt
   have hpos:=flat_pos .bgn
   have hil : (i : Int) < (l.length : Int):=by omega
   have hi0 : (0 : Int) ≤ (i : Int):=by omega
   have c0:=fun o => (h.alloc o).mb.cell 0
   have c1:=fun o => (h.alloc o).mb.cell 1
   have d0:=h.mb.cell 0
   have d1:=h.mb.cell 1
   simp only [List.getElem?_toArray,List.getElem?_cons_succ,List.getElem?_cons_zero] at c0 c1 d0 d1
   have qq:=fun o => HCELL.out _ (h.alloc o).bel i _ hat.bgn
   have HN : Hid (Blk (((w.setCell ⟨M,1,none⟩ (.int .i64 ((i : Int) + 1))).alloc (.cells #[.int .i64 8,.int .u64 ((0 : Nat) : Int),.int .u64 ((0 : Nat) : Int),.int .u64 ((0 : Nat) : Int),.int .u64 ((0 : Nat) : Int)] 114)).drew) w.heap.size 114 #[.int .i64 8,.int .u64 ((0 : Nat) : Int),.int .u64 ((0 : Nat) : Int),.int .u64 ((0 : Nat) : Int),.int .u64 ((0 : Nat) : Int)]):=hid (blk_at _ _ (by simp) _ _)
   have H:=hid (((h.at_ (i + 1) ((i : Int) + 1) (by simp)).alloc (.cells #[.int .i64 8,.int .u64 ((0 : Nat) : Int),.int .u64 ((0 : Nat) : Int),.int .u64 ((0 : Nat) : Int),.int .u64 ((0 : Nat) : Int)] 114)).drew)
   have HF:=hid ((Fm.setM M w 1 (.int .i64 ((i : Int) + 1))).trans (Fm.below (M:=M) (((Below.refl _ _).alloc (Nat.le_refl _) (.cells #[.int .i64 8,.int .u64 ((0 : Nat) : Int),.int .u64 ((0 : Nat) : Int),.int .u64 ((0 : Nat) : Int),.int .u64 ((0 : Nat) : Int)] 114)).drew)))
   obtain ⟨q0,q1,q2,q3,q4⟩:=HCELL.out _ h.bel i _ hat.bgn
   have r0:=fun o => (qq o).1
   have r1:=fun o => (qq o).2.1
   have r2:=fun o => (qq o).2.2.1
   have r3:=fun o => (qq o).2.2.2.1
   have r4:=fun o => (qq o).2.2.2.2
   dsimp only [zc] at q0 q1 q2 q3 q4 r0 r1 r2 r3 r4
   have z1:=fun o => (h.alloc o).mb.frozen 1
   have hMw:=h.mb.lt
   clear h qq hat
   go_enter Tryz.func159,Tryz.ntmps159
   go_wp2_with fail
   go_region
   go_wp2_with fail
   refine (next_any _ _ _ _ _ _ _ _ _ _ H.out).mono ?_
   rintro e w1 ⟨rfl,rfl⟩
   have n0:=HN.out.cell 0
   simp only [List.getElem?_toArray,List.getElem?_cons_succ,List.getElem?_cons_zero] at n0
   go_wp2_with fail
   refine (emit_any _ _ _ _ _ _ _ S _ 3 ((S.length : Int) + 1) 0 0 0 0 0 _ (by simp [sz] at hS;omega) H.out).mono ?_
   rintro e w2 ⟨rfl,v2,henv,hfm⟩
   have HE2:=hid henv
   have HF2:=hid (HF.out.trans hfm)
   clear henv hfm
   go_wp2_with fail
   go_end0
   exact ⟨rfl,_,HE2.out.cast (by simp [flat] <;> omega) (by simp [code,zc]),HF2.out⟩
 | fin =>
   intro i S v w hat hS h
   have hlt:=hat.lt
   have hpos:=flat_pos .fin
   have hil : (i : Int) < (l.length : Int):=by omega
   have hi0 : (0 : Int) ≤ (i : Int):=by omega
   have c0:=fun o => (h.alloc o).mb.cell 0
   have c1:=fun o => (h.alloc o).mb.cell 1
   have d0:=h.mb.cell 0
   have d1:=h.mb.cell 1
   simp only [List.getElem?_toArray,List.getElem?_cons_succ,List.getElem?_cons_zero] at c0 c1 d0 d1
   have qq:=fun o => HCELL.out _ (h.alloc o).bel i _ hat.fin
   have HN : Hid (Blk (((w.setCell ⟨M,1,none⟩ (.int .i64 ((i : Int) + 1))).alloc (.cells #[.int .i64 9,.int .u64 ((0 : Nat) : Int),.int .u64 ((0 : Nat) : Int),.int .u64 ((0 : Nat) : Int),.int .u64 ((0 : Nat) : Int)] 114)).drew) w.heap.size 114 #[.int .i64 9,.int .u64 ((0 : Nat) : Int),.int .u64 ((0 : Nat) : Int),.int .u64 ((0 : Nat) : Int),.int .u64 ((0 : Nat) : Int)]):=hid (blk_at _ _ (by simp) _ _)
   have H:=hid (((h.at_ (i + 1) ((i : Int) + 1) (by simp)).alloc (.cells #[.int .i64 9,.int .u64 ((0 : Nat) : Int),.int .u64 ((0 : Nat) : Int),.int .u64 ((0 : Nat) : Int),.int .u64 ((0 : Nat) : Int)] 114)).drew)
   have HF:=hid ((Fm.setM M w 1 (.int .i64 ((i : Int) + 1))).trans (Fm.below (M:=M) (((Below.refl _ _).alloc (Nat.le_refl _) (.cells #[.int .i64 9,.int .u64 ((0 : Nat) : Int),.int .u64 ((0 : Nat) : Int),.int .u64 ((0 : Nat) : Int),.int .u64 ((0 : Nat) : Int)] 114)).drew)))
   obtain ⟨q0,q1,q2,q3,q4⟩:=HCELL.out _ h.bel i _ hat.fin
   have r0:=fun o => (qq o).1
   have r1:=fun o => (qq o).2.1
   have r2:=fun o => (qq o).2.2.1
   have r3:=fun o => (qq o).2.2.2.1
   have r4:=fun o => (qq o).2.2.2.2
   dsimp only [zc] at q0 q1 q2 q3 q4 r0 r1 r2 r3 r4
   have z1:=fun o => (h.alloc o).mb.frozen 1
   have hMw:=h.mb.lt
   clear h qq hat
   go_enter Tryz.func159,Tryz.ntmps159
   go_wp2_with fail
   go_region
   go_wp2_with fail
   refine (next_any _ _ _ _ _ _ _ _ _ _ H.out).mono ?_
   rintro e w1 ⟨rfl,rfl⟩
   have n0:=HN.out.cell 0
   simp only [List.getElem?_toArray,List.getElem?_cons_succ,List.getElem?_cons_zero] at n0
   go_wp2_with fail
   refine (emit_any _ _ _ _ _ _ _ S _ 4 ((S.length : Int) + 1) 0 0 0 0 0 _ (by simp [sz] at hS;omega) H.out).mono ?_
   rintro e w2 ⟨rfl,v2,henv,hfm⟩
   have HE2:=hid henv
   have HF2:=hid (HF.out.trans hfm)
   clear henv hfm
   go_wp2_with fail
   go_end0
   exact ⟨rfl,_,HE2.out.cast (by simp [flat] <;> omega) (by simp [code,zc]),HF2.out⟩
 | cat a b iha ihb =>
   intro i S v w hat hS h
   have hlt:=hat.lt
   have HIA:=hid iha
   have HIB:=hid ihb
   have HAT:=hid hat
   simp only [sz] at hS
   clear iha ihb
   have hpos:=flat_pos (.cat a b)
   have hil : (i : Int) < (l.length : Int):=by omega
   have hi0 : (0 : Int) ≤ (i : Int):=by omega
   have c0:=fun o => (h.alloc o).mb.cell 0
   have c1:=fun o => (h.alloc o).mb.cell 1
   have d0:=h.mb.cell 0
   have d1:=h.mb.cell 1
   simp only [List.getElem?_toArray,List.getElem?_cons_succ,List.getElem?_cons_zero] at c0 c1 d0 d1
   have qq:=fun o => HCELL.out _ (h.alloc o).bel i _ hat.cat.1
   have HN : Hid (Blk (((w.setCell ⟨M,1,none⟩ (.int .i64 ((i : Int) + 1))).alloc (.cells #[.int .i64 3,.int .u64 ((0 : Nat) : Int),.int .u64 ((0 : Nat) : Int),.int .u64 ((0 : Nat) : Int),.int .u64 ((0 : Nat) : Int)] 114)).drew) w.heap.size 114 #[.int .i64 3,.int .u64 ((0 : Nat) : Int),.int .u64 ((0 : Nat) : Int),.int .u64 ((0 : Nat) : Int),.int .u64 ((0 : Nat) : Int)]):=hid (blk_at _ _ (by simp) _ _)
   have H:=hid (((h.at_ (i + 1) ((i : Int) + 1) (by simp)).alloc (.cells #[.int .i64 3,.int .u64 ((0 : Nat) : Int),.int .u64 ((0 : Nat) : Int),.int .u64 ((0 : Nat) : Int),.int .u64 ((0 : Nat) : Int)] 114)).drew)
   have HF:=hid ((Fm.setM M w 1 (.int .i64 ((i : Int) + 1))).trans (Fm.below (M:=M) (((Below.refl _ _).alloc (Nat.le_refl _) (.cells #[.int .i64 3,.int .u64 ((0 : Nat) : Int),.int .u64 ((0 : Nat) : Int),.int .u64 ((0 : Nat) : Int),.int .u64 ((0 : Nat) : Int)] 114)).drew)))
   obtain ⟨q0,q1,q2,q3,q4⟩:=HCELL.out _ h.bel i _ hat.cat.1
   have r0:=fun o => (qq o).1
   have r1:=fun o => (qq o).2.1
   have r2:=fun o => (qq o).2.2.1
   have r3:=fun o => (qq o).2.2.2.1
   have r4:=fun o => (qq o).2.2.2.2
   dsimp only [zc] at q0 q1 q2 q3 q4 r0 r1 r2 r3 r4
   have z1:=fun o => (h.alloc o).mb.frozen 1
   have hMw:=h.mb.lt
   clear h qq hat
   go_enter Tryz.func159,Tryz.ntmps159
   go_wp2_with fail
   go_region
   go_wp2_with fail
   refine (next_any _ _ _ _ _ _ _ _ _ _ H.out).mono ?_
   rintro e w1 ⟨rfl,rfl⟩
   have n0:=HN.out.cell 0
   simp only [List.getElem?_toArray,List.getElem?_cons_succ,List.getElem?_cons_zero] at n0
   go_wp2_with fail
   refine (HIA.out (i + 1) S v _ HAT.out.cat.2.1 (by omega) H.out).mono ?_
   rintro e w2 ⟨rfl,v2,henv,hfm⟩
   have HE2:=hid henv
   have HF2:=hid (HF.out.trans hfm)
   clear henv hfm
   go_wp2_with fail
   refine (HIB.out (i + 1 + (flat a).length) (S ++ code a S.length) v2 _ HAT.out.cat.2.2 (by rw [List.length_append,code_len];omega) HE2.out).mono ?_
   rintro e w3 ⟨rfl,v3,henv,hfm⟩
   have HE3:=hid henv
   have HF3:=hid (HF2.out.trans hfm)
   clear henv hfm
   go_wp2_with fail
   go_end0
   exact ⟨rfl,_,HE3.out.cast (by simp [flat] <;> omega) (by simp [code,code_len]),HF3.out⟩
 | plus a iha =>
   intro i S v w hat hS h
   have hlt:=hat.lt
   have HIA:=hid iha
   have HAT:=hid hat
   simp only [sz] at hS
   clear iha
   have hpos:=flat_pos (.plus a)
   have hil : (i : Int) < (l.length : Int):=by omega
   have hi0 : (0 : Int) ≤ (i : Int):=by omega
   have c0:=fun o => (h.alloc o).mb.cell 0
   have c1:=fun o => (h.alloc o).mb.cell 1
   have d0:=h.mb.cell 0
   have d1:=h.mb.cell 1
   simp only [List.getElem?_toArray,List.getElem?_cons_succ,List.getElem?_cons_zero] at c0 c1 d0 d1
   have qq:=fun o => HCELL.out _ (h.alloc o).bel i _ hat.plus.1
   have HN : Hid (Blk (((w.setCell ⟨M,1,none⟩ (.int .i64 ((i : Int) + 1))).alloc (.cells #[.int .i64 6,.int .u64 ((0 : Nat) : Int),.int .u64 ((0 : Nat) : Int),.int .u64 ((0 : Nat) : Int),.int .u64 ((0 : Nat) : Int)] 114)).drew) w.heap.size 114 #[.int .i64 6,.int .u64 ((0 : Nat) : Int),.int .u64 ((0 : Nat) : Int),.int .u64 ((0 : Nat) : Int),.int .u64 ((0 : Nat) : Int)]):=hid (blk_at _ _ (by simp) _ _)
   have H:=hid (((h.at_ (i + 1) ((i : Int) + 1) (by simp)).alloc (.cells #[.int .i64 6,.int .u64 ((0 : Nat) : Int),.int .u64 ((0 : Nat) : Int),.int .u64 ((0 : Nat) : Int),.int .u64 ((0 : Nat) : Int)] 114)).drew)
   have HF:=hid ((Fm.setM M w 1 (.int .i64 ((i : Int) + 1))).trans (Fm.below (M:=M) (((Below.refl _ _).alloc (Nat.le_refl _) (.cells #[.int .i64 6,.int .u64 ((0 : Nat) : Int),.int .u64 ((0 : Nat) : Int),.int .u64 ((0 : Nat) : Int),.int .u64 ((0 : Nat) : Int)] 114)).drew)))
   obtain ⟨q0,q1,q2,q3,q4⟩:=HCELL.out _ h.bel i _ hat.plus.1
   have r0:=fun o => (qq o).1
   have r1:=fun o => (qq o).2.1
   have r2:=fun o => (qq o).2.2.1
   have r3:=fun o => (qq o).2.2.2.1
   have r4:=fun o => (qq o).2.2.2.2
   dsimp only [zc] at q0 q1 q2 q3 q4 r0 r1 r2 r3 r4
   have z1:=fun o => (h.alloc o).mb.frozen 1
   have hMw:=h.mb.lt
   clear h qq hat
   go_enter Tryz.func159,Tryz.ntmps159
   go_wp2_with fail
   go_region
   go_wp2_with fail
   refine (next_any _ _ _ _ _ _ _ _ _ _ H.out).mono ?_
   rintro e w1 ⟨rfl,rfl⟩
   have n0:=HN.out.cell 0
   simp only [List.getElem?_toArray,List.getElem?_cons_succ,List.getElem?_cons_zero] at n0
   have HG1:=hid (Fm.refl M ((w.setCell ⟨M,1,none⟩ (.int .i64 ((i : Int) + 1))).alloc (.cells #[.int .i64 6,.int .u64 ((0 : Nat) : Int),.int .u64 ((0 : Nat) : Int),.int .u64 ((0 : Nat) : Int),.int .u64 ((0 : Nat) : Int)] 114)).drew)
   go_wp2_with fail
   refine (HIA.out (i + 1) S v _ HAT.out.plus.2 (by omega) H.out).mono ?_
   rintro e w2 ⟨rfl,v2,henv,hfm⟩
   obtain ⟨S2,hS2⟩ : ∃ X,X = S ++ code a S.length:=⟨_,rfl⟩
   have HS2:=hid hS2
   have HL2 : Hid (S2.length = S.length + sz a):=hid (by rw [hS2];simp [code_len];try omega)
   rw [← hS2] at henv
   clear hS2
   have hB2 : S2.length ≤ 1000:=by have:=HL2.out;first | omega | (have:=HL2.out;omega) | (have:=HL2.out;have:=HL3.out;omega) | (have:=HL2.out;have:=HL3.out;have:=HL4.out;omega)
   have HE2:=hid henv
   have HG2:=hid (HG1.out.trans hfm)
   clear henv hfm
   go_wp2_with fail
   refine (next_any _ _ _ _ _ _ _ _ _ _ HE2.out).mono ?_
   rintro e w3 ⟨rfl,rfl⟩
   go_wp2_with fail
   refine (emit_any _ _ _ _ _ _ _ S2 _ 2 (S.length : Int) ((S2.length : Int) + 1) 0 0 0 0 _ (by have:=HL2.out;omega) HE2.out).mono ?_
   rintro e w4 ⟨rfl,v4,henv,hfm⟩
   obtain ⟨S4,hS4⟩ : ∃ X,X = S2 ++ [⟨2,(0,0,0,0),(S.length : Int),(S2.length : Int) + 1⟩]:=⟨_,rfl⟩
   have HS4:=hid hS4
   have HL4 : Hid (S4.length = S2.length + 1):=hid (by rw [hS4];simp [code_len];try omega)
   rw [← hS4] at henv
   clear hS4
   have hB4 : S4.length ≤ 1000:=by have:=HL4.out;first | omega | (have:=HL2.out;omega) | (have:=HL2.out;have:=HL3.out;omega) | (have:=HL2.out;have:=HL3.out;have:=HL4.out;omega)
   have HE4:=hid henv
   have HG4:=hid (HG2.out.trans hfm)
   clear henv hfm
   go_wp2_with fail
   go_end0
   exact ⟨rfl,_,HE4.out.cast (by simp [flat] <;> omega) (by rw [HS4.out,HL2.out,HS2.out];simp [code,code_len,zc]),(HF.out.trans HG4.out)⟩
 | opt a iha =>
   intro i S v w hat hS h
   have hlt:=hat.lt
   have HIA:=hid iha
   have HAT:=hid hat
   simp only [sz] at hS
   clear iha
   have hpos:=flat_pos (.opt a)
   have hil : (i : Int) < (l.length : Int):=by omega
   have hi0 : (0 : Int) ≤ (i : Int):=by omega
   have c0:=fun o => (h.alloc o).mb.cell 0
   have c1:=fun o => (h.alloc o).mb.cell 1
   have d0:=h.mb.cell 0
   have d1:=h.mb.cell 1
   simp only [List.getElem?_toArray,List.getElem?_cons_succ,List.getElem?_cons_zero] at c0 c1 d0 d1
   have qq:=fun o => HCELL.out _ (h.alloc o).bel i _ hat.opt.1
   have HN : Hid (Blk (((w.setCell ⟨M,1,none⟩ (.int .i64 ((i : Int) + 1))).alloc (.cells #[.int .i64 7,.int .u64 ((0 : Nat) : Int),.int .u64 ((0 : Nat) : Int),.int .u64 ((0 : Nat) : Int),.int .u64 ((0 : Nat) : Int)] 114)).drew) w.heap.size 114 #[.int .i64 7,.int .u64 ((0 : Nat) : Int),.int .u64 ((0 : Nat) : Int),.int .u64 ((0 : Nat) : Int),.int .u64 ((0 : Nat) : Int)]):=hid (blk_at _ _ (by simp) _ _)
   have H:=hid (((h.at_ (i + 1) ((i : Int) + 1) (by simp)).alloc (.cells #[.int .i64 7,.int .u64 ((0 : Nat) : Int),.int .u64 ((0 : Nat) : Int),.int .u64 ((0 : Nat) : Int),.int .u64 ((0 : Nat) : Int)] 114)).drew)
   have HF:=hid ((Fm.setM M w 1 (.int .i64 ((i : Int) + 1))).trans (Fm.below (M:=M) (((Below.refl _ _).alloc (Nat.le_refl _) (.cells #[.int .i64 7,.int .u64 ((0 : Nat) : Int),.int .u64 ((0 : Nat) : Int),.int .u64 ((0 : Nat) : Int),.int .u64 ((0 : Nat) : Int)] 114)).drew)))
   obtain ⟨q0,q1,q2,q3,q4⟩:=HCELL.out _ h.bel i _ hat.opt.1
   have r0:=fun o => (qq o).1
   have r1:=fun o => (qq o).2.1
   have r2:=fun o => (qq o).2.2.1
   have r3:=fun o => (qq o).2.2.2.1
   have r4:=fun o => (qq o).2.2.2.2
   dsimp only [zc] at q0 q1 q2 q3 q4 r0 r1 r2 r3 r4
   have z1:=fun o => (h.alloc o).mb.frozen 1
   have hMw:=h.mb.lt
   clear h qq hat
   go_enter Tryz.func159,Tryz.ntmps159
   go_wp2_with fail
   go_region
   go_wp2_with fail
   refine (next_any _ _ _ _ _ _ _ _ _ _ H.out).mono ?_
   rintro e w1 ⟨rfl,rfl⟩
   have n0:=HN.out.cell 0
   simp only [List.getElem?_toArray,List.getElem?_cons_succ,List.getElem?_cons_zero] at n0
   have HG1:=hid (Fm.refl M ((w.setCell ⟨M,1,none⟩ (.int .i64 ((i : Int) + 1))).alloc (.cells #[.int .i64 7,.int .u64 ((0 : Nat) : Int),.int .u64 ((0 : Nat) : Int),.int .u64 ((0 : Nat) : Int),.int .u64 ((0 : Nat) : Int)] 114)).drew)
   go_wp2_with fail
   refine (emit_any _ _ _ _ _ _ _ S _ 2 ((S.length : Int) + 1) 0 0 0 0 0 _ (by omega) H.out).mono ?_
   rintro e w2 ⟨rfl,v2,henv,hfm⟩
   obtain ⟨S2,hS2⟩ : ∃ X,X = S ++ [⟨2,(0,0,0,0),(S.length : Int) + 1,0⟩]:=⟨_,rfl⟩
   have HS2:=hid hS2
   have HL2 : Hid (S2.length = S.length + 1):=hid (by rw [hS2];simp [code_len];try omega)
   rw [← hS2] at henv
   clear hS2
   have hB2 : S2.length ≤ 1000:=by have:=HL2.out;first | omega | (have:=HL2.out;omega) | (have:=HL2.out;have:=HL3.out;omega) | (have:=HL2.out;have:=HL3.out;have:=HL4.out;omega)
   have HE2:=hid henv
   have HG2:=hid (HG1.out.trans hfm)
   clear henv hfm
   go_wp2_with fail
   refine (HIA.out (i + 1) S2 _ _ HAT.out.opt.2 (by have:=HL2.out;omega) HE2.out).mono ?_
   rintro e w3 ⟨rfl,v3,henv,hfm⟩
   obtain ⟨S3,hS3⟩ : ∃ X,X = S2 ++ code a S2.length:=⟨_,rfl⟩
   have HS3:=hid hS3
   have HL3 : Hid (S3.length = S.length + 1 + sz a):=hid (by rw [hS3];simp [code_len,HL2.out];try omega)
   rw [← hS3] at henv
   clear hS3
   have hB3 : S3.length ≤ 1000:=by have:=HL3.out;first | omega | (have:=HL2.out;omega) | (have:=HL2.out;have:=HL3.out;omega) | (have:=HL2.out;have:=HL3.out;have:=HL4.out;omega)
   have HE3:=hid henv
   have HG3:=hid (HG2.out.trans hfm)
   clear henv hfm
   have n0':=(Blk.fm HN.out HG3.out (by decide) (by omega)).cell 0
   simp only [List.getElem?_toArray,List.getElem?_cons_succ,List.getElem?_cons_zero] at n0'
   obtain ⟨g,c,rfl⟩:=HE3.out.form (by have:=HL3.out;omega)
   obtain ⟨a1,a2,a3,a4,a5,a6⟩:=HE3.out.step
   have hk : S3[S.length]? = some ⟨2,(0,0,0,0),(S.length : Int) + 1,0⟩:=by rw [HS3.out,HS2.out];simp
   obtain ⟨b5,b6⟩:=a6 _ _ hk
   have z6:=a5 (S.length * 7 + 6)
   have z5:=a5 (S.length * 7 + 5)
   have m2:=HE3.out.mb.cell 2
   simp only [List.getElem?_toArray,List.getElem?_cons_succ,List.getElem?_cons_zero] at m2
   have i1 : ((S.length : Nat) : Int) < (S3.length : Int):=by have:=HL3.out;omega
   have i0 : (0 : Int) ≤ ((S.length : Nat) : Int):=by omega
   have HK:=hid hk
   clear a5 a6 hk
   go_wp2_with fail
   have m2a : w3.drew.cell? ⟨M,2,none⟩ = some (.slice (some ⟨g,0,none⟩) S3.length c):=m2
   have m2b : ∀ u,(w3.drew.setCell ⟨g,S.length * 7 + 6,none⟩ u).cell? ⟨M,2,none⟩ = some (.slice (some ⟨g,0,none⟩) S3.length c):=fun u => (World.cell?_setCell_other _ _ _ _ (by simp <;> omega)).trans m2
   have HNX:=hid (next_any _ _ _ _ _ _ _ S3 (.slice (some ⟨g,0,none⟩) S3.length c) _ HE3.out.drew)
   go_region_held3 (fun w' => w'.cell? ⟨M,2,none⟩ = some (.slice (some ⟨g,0,none⟩) S3.length c)) (first | exact m2a | exact m2b _) (first | (go_at_call 184;refine HNX.out.mono ?_;rintro e w' ⟨rfl,rfl⟩))
   clear m2a m2b
   all_goals (
    go_wp2_with fail
    go_end0
    exact ⟨rfl,_,(by first | exact (HE3.out.drew.setY HK.out (S3.length : Int)).cast rfl rfl | exact ((HE3.out.setY HK.out (S3.length : Int)).drew).cast rfl rfl : MEnv _ _ _ _ _ _ _ (S3.set S.length ⟨2,(0,0,0,0),(S.length : Int) + 1,(S3.length : Int)⟩) _ _).cast (by simp [flat] <;> omega) (by rw [HL3.out,HS3.out,HS2.out,set_mid];simp [code,zc]),HF.out.trans ((HG3.out.trans (Fm.below (Below.refl _ _).drew)).trans (Fm.row HE3.out.drew.row _ _))⟩)
 | star a iha =>
   intro i S v w hat hS h
   have hlt:=hat.lt
   have HIA:=hid iha
   have HAT:=hid hat
   simp only [sz] at hS
   clear iha
   have hpos:=flat_pos (.star a)
   have hil : (i : Int) < (l.length : Int):=by omega
   have hi0 : (0 : Int) ≤ (i : Int):=by omega
   have c0:=fun o => (h.alloc o).mb.cell 0
   have c1:=fun o => (h.alloc o).mb.cell 1
   have d0:=h.mb.cell 0
   have d1:=h.mb.cell 1
   simp only [List.getElem?_toArray,List.getElem?_cons_succ,List.getElem?_cons_zero] at c0 c1 d0 d1
   have qq:=fun o => HCELL.out _ (h.alloc o).bel i _ hat.star.1
   have HN : Hid (Blk (((w.setCell ⟨M,1,none⟩ (.int .i64 ((i : Int) + 1))).alloc (.cells #[.int .i64 5,.int .u64 ((0 : Nat) : Int),.int .u64 ((0 : Nat) : Int),.int .u64 ((0 : Nat) : Int),.int .u64 ((0 : Nat) : Int)] 114)).drew) w.heap.size 114 #[.int .i64 5,.int .u64 ((0 : Nat) : Int),.int .u64 ((0 : Nat) : Int),.int .u64 ((0 : Nat) : Int),.int .u64 ((0 : Nat) : Int)]):=hid (blk_at _ _ (by simp) _ _)
   have H:=hid (((h.at_ (i + 1) ((i : Int) + 1) (by simp)).alloc (.cells #[.int .i64 5,.int .u64 ((0 : Nat) : Int),.int .u64 ((0 : Nat) : Int),.int .u64 ((0 : Nat) : Int),.int .u64 ((0 : Nat) : Int)] 114)).drew)
   have HF:=hid ((Fm.setM M w 1 (.int .i64 ((i : Int) + 1))).trans (Fm.below (M:=M) (((Below.refl _ _).alloc (Nat.le_refl _) (.cells #[.int .i64 5,.int .u64 ((0 : Nat) : Int),.int .u64 ((0 : Nat) : Int),.int .u64 ((0 : Nat) : Int),.int .u64 ((0 : Nat) : Int)] 114)).drew)))
   obtain ⟨q0,q1,q2,q3,q4⟩:=HCELL.out _ h.bel i _ hat.star.1
   have r0:=fun o => (qq o).1
   have r1:=fun o => (qq o).2.1
   have r2:=fun o => (qq o).2.2.1
   have r3:=fun o => (qq o).2.2.2.1
   have r4:=fun o => (qq o).2.2.2.2
   dsimp only [zc] at q0 q1 q2 q3 q4 r0 r1 r2 r3 r4
   have z1:=fun o => (h.alloc o).mb.frozen 1
   have hMw:=h.mb.lt
   clear h qq hat
   go_enter Tryz.func159,Tryz.ntmps159
   go_wp2_with fail
   go_region
   go_wp2_with fail
   refine (next_any _ _ _ _ _ _ _ _ _ _ H.out).mono ?_
   rintro e w1 ⟨rfl,rfl⟩
   have n0:=HN.out.cell 0
   simp only [List.getElem?_toArray,List.getElem?_cons_succ,List.getElem?_cons_zero] at n0
   have HG1:=hid (Fm.refl M ((w.setCell ⟨M,1,none⟩ (.int .i64 ((i : Int) + 1))).alloc (.cells #[.int .i64 5,.int .u64 ((0 : Nat) : Int),.int .u64 ((0 : Nat) : Int),.int .u64 ((0 : Nat) : Int),.int .u64 ((0 : Nat) : Int)] 114)).drew)
   go_wp2_with fail
   refine (emit_any _ _ _ _ _ _ _ S _ 2 ((S.length : Int) + 1) 0 0 0 0 0 _ (by omega) H.out).mono ?_
   rintro e w2 ⟨rfl,v2,henv,hfm⟩
   obtain ⟨S2,hS2⟩ : ∃ X,X = S ++ [⟨2,(0,0,0,0),(S.length : Int) + 1,0⟩]:=⟨_,rfl⟩
   have HS2:=hid hS2
   have HL2 : Hid (S2.length = S.length + 1):=hid (by rw [hS2];simp [code_len];try omega)
   rw [← hS2] at henv
   clear hS2
   have hB2 : S2.length ≤ 1000:=by have:=HL2.out;first | omega | (have:=HL2.out;omega) | (have:=HL2.out;have:=HL3.out;omega) | (have:=HL2.out;have:=HL3.out;have:=HL4.out;omega)
   have HE2:=hid henv
   have HG2:=hid (HG1.out.trans hfm)
   clear henv hfm
   go_wp2_with fail
   refine (HIA.out (i + 1) S2 _ _ HAT.out.star.2 (by have:=HL2.out;omega) HE2.out).mono ?_
   rintro e w3 ⟨rfl,v3,henv,hfm⟩
   obtain ⟨S3,hS3⟩ : ∃ X,X = S2 ++ code a S2.length:=⟨_,rfl⟩
   have HS3:=hid hS3
   have HL3 : Hid (S3.length = S.length + 1 + sz a):=hid (by rw [hS3];simp [code_len,HL2.out];try omega)
   rw [← hS3] at henv
   clear hS3
   have hB3 : S3.length ≤ 1000:=by have:=HL3.out;first | omega | (have:=HL2.out;omega) | (have:=HL2.out;have:=HL3.out;omega) | (have:=HL2.out;have:=HL3.out;have:=HL4.out;omega)
   have HE3:=hid henv
   have HG3:=hid (HG2.out.trans hfm)
   clear henv hfm
   have n0':=(Blk.fm HN.out HG3.out (by decide) (by omega)).cell 0
   simp only [List.getElem?_toArray,List.getElem?_cons_succ,List.getElem?_cons_zero] at n0'
   go_wp2_with fail
   refine (next_any _ _ _ _ _ _ _ _ _ _ HE3.out).mono ?_
   rintro e w3' ⟨rfl,rfl⟩
   go_wp2_with fail
   refine (emit_any _ _ _ _ _ _ _ S3 _ 2 ((S.length : Int) + 1) ((S3.length : Int) + 1) 0 0 0 0 _ (by have:=HL3.out;omega) HE3.out).mono ?_
   rintro e w4 ⟨rfl,v4,henv,hfm⟩
   obtain ⟨S4,hS4⟩ : ∃ X,X = S3 ++ [⟨2,(0,0,0,0),(S.length : Int) + 1,(S3.length : Int) + 1⟩]:=⟨_,rfl⟩
   have HS4:=hid hS4
   have HL4 : Hid (S4.length = S3.length + 1):=hid (by rw [hS4];simp [code_len];try omega)
   rw [← hS4] at henv
   clear hS4
   have hB4 : S4.length ≤ 1000:=by have:=HL4.out;first | omega | (have:=HL2.out;omega) | (have:=HL2.out;have:=HL3.out;omega) | (have:=HL2.out;have:=HL3.out;have:=HL4.out;omega)
   have HE4:=hid henv
   have HG4:=hid (HG3.out.trans hfm)
   clear henv hfm
   obtain ⟨g,c,rfl⟩:=HE4.out.form (by have:=HL4.out;have:=HL3.out;omega)
   obtain ⟨a1,a2,a3,a4,a5,a6⟩:=HE4.out.step
   have hk : S4[S.length]? = some ⟨2,(0,0,0,0),(S.length : Int) + 1,0⟩:=by rw [HS4.out,HS3.out,HS2.out];simp
   obtain ⟨b5,b6⟩:=a6 _ _ hk
   have z6:=a5 (S.length * 7 + 6)
   have z5:=a5 (S.length * 7 + 5)
   have m2:=HE4.out.mb.cell 2
   simp only [List.getElem?_toArray,List.getElem?_cons_succ,List.getElem?_cons_zero] at m2
   have i1 : ((S.length : Nat) : Int) < (S4.length : Int):=by have:=HL4.out;have:=HL3.out;omega
   have i0 : (0 : Int) ≤ ((S.length : Nat) : Int):=by omega
   have HK:=hid hk
   clear a5 a6 hk
   go_wp2_with fail
   have m2a : w4.drew.cell? ⟨M,2,none⟩ = some (.slice (some ⟨g,0,none⟩) S4.length c):=m2
   have m2b : ∀ u,(w4.drew.setCell ⟨g,S.length * 7 + 6,none⟩ u).cell? ⟨M,2,none⟩ = some (.slice (some ⟨g,0,none⟩) S4.length c):=fun u => (World.cell?_setCell_other _ _ _ _ (by simp <;> omega)).trans m2
   have HNX:=hid (next_any _ _ _ _ _ _ _ S4 (.slice (some ⟨g,0,none⟩) S4.length c) _ HE4.out.drew)
   go_region_held3 (fun w' => w'.cell? ⟨M,2,none⟩ = some (.slice (some ⟨g,0,none⟩) S4.length c)) (first | exact m2a | exact m2b _) (first | (go_at_call 184;refine HNX.out.mono ?_;rintro e w' ⟨rfl,rfl⟩))
   clear m2a m2b
   all_goals (
    go_wp2_with fail
    go_end0
    exact ⟨rfl,_,(by first | exact (HE4.out.drew.setY HK.out (S4.length : Int)).cast rfl rfl | exact ((HE4.out.setY HK.out (S4.length : Int)).drew).cast rfl rfl : MEnv _ _ _ _ _ _ _ (S4.set S.length ⟨2,(0,0,0,0),(S.length : Int) + 1,(S4.length : Int)⟩) _ _).cast (by simp [flat] <;> omega) (by rw [HL4.out,HL3.out,HS4.out,HL3.out,HS3.out,HS2.out,List.append_assoc (S ++ [_]),set_mid];simp [code,zc]),HF.out.trans ((HG4.out.trans (Fm.below (Below.refl _ _).drew)).trans (Fm.row HE4.out.drew.row _ _))⟩)
 | alt a b iha ihb =>
   intro i S v w hat hS h
   have hlt:=hat.lt
   have HIA:=hid iha
   have HIB:=hid ihb
   have HAT:=hid hat
   simp only [sz] at hS
   clear iha ihb
   have hpos:=flat_pos (.alt a b)
   have hil : (i : Int) < (l.length : Int):=by omega
   have hi0 : (0 : Int) ≤ (i : Int):=by omega
   have c0:=fun o => (h.alloc o).mb.cell 0
   have c1:=fun o => (h.alloc o).mb.cell 1
   have d0:=h.mb.cell 0
   have d1:=h.mb.cell 1
   simp only [List.getElem?_toArray,List.getElem?_cons_succ,List.getElem?_cons_zero] at c0 c1 d0 d1
   have qq:=fun o => HCELL.out _ (h.alloc o).bel i _ hat.alt.1
   have HN : Hid (Blk (((w.setCell ⟨M,1,none⟩ (.int .i64 ((i : Int) + 1))).alloc (.cells #[.int .i64 4,.int .u64 ((0 : Nat) : Int),.int .u64 ((0 : Nat) : Int),.int .u64 ((0 : Nat) : Int),.int .u64 ((0 : Nat) : Int)] 114)).drew) w.heap.size 114 #[.int .i64 4,.int .u64 ((0 : Nat) : Int),.int .u64 ((0 : Nat) : Int),.int .u64 ((0 : Nat) : Int),.int .u64 ((0 : Nat) : Int)]):=hid (blk_at _ _ (by simp) _ _)
   have H:=hid (((h.at_ (i + 1) ((i : Int) + 1) (by simp)).alloc (.cells #[.int .i64 4,.int .u64 ((0 : Nat) : Int),.int .u64 ((0 : Nat) : Int),.int .u64 ((0 : Nat) : Int),.int .u64 ((0 : Nat) : Int)] 114)).drew)
   have HF:=hid ((Fm.setM M w 1 (.int .i64 ((i : Int) + 1))).trans (Fm.below (M:=M) (((Below.refl _ _).alloc (Nat.le_refl _) (.cells #[.int .i64 4,.int .u64 ((0 : Nat) : Int),.int .u64 ((0 : Nat) : Int),.int .u64 ((0 : Nat) : Int),.int .u64 ((0 : Nat) : Int)] 114)).drew)))
   obtain ⟨q0,q1,q2,q3,q4⟩:=HCELL.out _ h.bel i _ hat.alt.1
   have r0:=fun o => (qq o).1
   have r1:=fun o => (qq o).2.1
   have r2:=fun o => (qq o).2.2.1
   have r3:=fun o => (qq o).2.2.2.1
   have r4:=fun o => (qq o).2.2.2.2
   dsimp only [zc] at q0 q1 q2 q3 q4 r0 r1 r2 r3 r4
   have z1:=fun o => (h.alloc o).mb.frozen 1
   have hMw:=h.mb.lt
   clear h qq hat
   go_enter Tryz.func159,Tryz.ntmps159
   go_wp2_with fail
   go_region
   go_wp2_with fail
   refine (next_any _ _ _ _ _ _ _ _ _ _ H.out).mono ?_
   rintro e w1 ⟨rfl,rfl⟩
   have n0:=HN.out.cell 0
   simp only [List.getElem?_toArray,List.getElem?_cons_succ,List.getElem?_cons_zero] at n0
   have HG1:=hid (Fm.refl M ((w.setCell ⟨M,1,none⟩ (.int .i64 ((i : Int) + 1))).alloc (.cells #[.int .i64 4,.int .u64 ((0 : Nat) : Int),.int .u64 ((0 : Nat) : Int),.int .u64 ((0 : Nat) : Int),.int .u64 ((0 : Nat) : Int)] 114)).drew)
   go_wp2_with fail
   refine (emit_any _ _ _ _ _ _ _ S _ 2 ((S.length : Int) + 1) 0 0 0 0 0 _ (by omega) H.out).mono ?_
   rintro e w2 ⟨rfl,v2,henv,hfm⟩
   obtain ⟨S2,hS2⟩ : ∃ X,X = S ++ [⟨2,(0,0,0,0),(S.length : Int) + 1,0⟩]:=⟨_,rfl⟩
   have HS2:=hid hS2
   have HL2 : Hid (S2.length = S.length + 1):=hid (by rw [hS2];simp [code_len];try omega)
   rw [← hS2] at henv
   clear hS2
   have hB2 : S2.length ≤ 1000:=by have:=HL2.out;first | omega | (have:=HL2.out;omega) | (have:=HL2.out;have:=HL3.out;omega) | (have:=HL2.out;have:=HL3.out;have:=HL4.out;omega)
   have HE2:=hid henv
   have HG2:=hid (HG1.out.trans hfm)
   clear henv hfm
   go_wp2_with fail
   refine (HIA.out (i + 1) S2 _ _ HAT.out.alt.2.1 (by have:=HL2.out;omega) HE2.out).mono ?_
   rintro e w3 ⟨rfl,v3,henv,hfm⟩
   obtain ⟨S3,hS3⟩ : ∃ X,X = S2 ++ code a S2.length:=⟨_,rfl⟩
   have HS3:=hid hS3
   have HL3 : Hid (S3.length = S.length + 1 + sz a):=hid (by rw [hS3];simp [code_len,HL2.out];try omega)
   rw [← hS3] at henv
   clear hS3
   have hB3 : S3.length ≤ 1000:=by have:=HL3.out;first | omega | (have:=HL2.out;omega) | (have:=HL2.out;have:=HL3.out;omega) | (have:=HL2.out;have:=HL3.out;have:=HL4.out;omega)
   have HE3:=hid henv
   have HG3:=hid (HG2.out.trans hfm)
   clear henv hfm
   go_wp2_with fail
   refine (emit_any _ _ _ _ _ _ _ S3 _ 2 0 0 0 0 0 0 _ (by have:=HL3.out;omega) HE3.out).mono ?_
   rintro e w4 ⟨rfl,v4,henv,hfm⟩
   obtain ⟨S4,hS4⟩ : ∃ X,X = S3 ++ [⟨2,(0,0,0,0),0,0⟩]:=⟨_,rfl⟩
   have HS4:=hid hS4
   have HL4 : Hid (S4.length = S3.length + 1):=hid (by rw [hS4];simp [code_len];try omega)
   rw [← hS4] at henv
   clear hS4
   have hB4 : S4.length ≤ 1000:=by have:=HL4.out;first | omega | (have:=HL2.out;omega) | (have:=HL2.out;have:=HL3.out;omega) | (have:=HL2.out;have:=HL3.out;have:=HL4.out;omega)
   have HE4:=hid henv
   have HG4:=hid (HG3.out.trans hfm)
   clear henv hfm
   obtain ⟨g,c,rfl⟩:=HE4.out.form (by have:=HL4.out;have:=HL3.out;omega)
   obtain ⟨a1,a2,a3,a4,a5,a6⟩:=HE4.out.step
   have hk : S4[S.length]? = some ⟨2,(0,0,0,0),(S.length : Int) + 1,0⟩:=by rw [HS4.out,HS3.out,HS2.out];simp
   obtain ⟨b5,b6⟩:=a6 _ _ hk
   have z6:=a5 (S.length * 7 + 6)
   have z5:=a5 (S.length * 7 + 5)
   have m2:=HE4.out.mb.cell 2
   simp only [List.getElem?_toArray,List.getElem?_cons_succ,List.getElem?_cons_zero] at m2
   have i1 : ((S.length : Nat) : Int) < (S4.length : Int):=by have:=HL4.out;have:=HL3.out;omega
   have i0 : (0 : Int) ≤ ((S.length : Nat) : Int):=by omega
   have HK:=hid hk
   clear a5 a6 hk
   go_wp2_with fail
   have m2a : w4.drew.cell? ⟨M,2,none⟩ = some (.slice (some ⟨g,0,none⟩) S4.length c):=m2
   have m2b : ∀ u,(w4.drew.setCell ⟨g,S.length * 7 + 6,none⟩ u).cell? ⟨M,2,none⟩ = some (.slice (some ⟨g,0,none⟩) S4.length c):=fun u => (World.cell?_setCell_other _ _ _ _ (by simp <;> omega)).trans m2
   have HNX:=hid (next_any _ _ _ _ _ _ _ S4 (.slice (some ⟨g,0,none⟩) S4.length c) _ HE4.out.drew)
   go_region_held3 (fun w' => w'.cell? ⟨M,2,none⟩ = some (.slice (some ⟨g,0,none⟩) S4.length c)) (first | exact m2a | exact m2b _) (first | (go_at_call 184;refine HNX.out.mono ?_;rintro e w' ⟨rfl,rfl⟩))
   clear m2a m2b
   all_goals (
    obtain ⟨S5,hS5⟩ : ∃ X,X = S4.set S.length ⟨2,(0,0,0,0),(S.length : Int) + 1,(S4.length : Int)⟩:=⟨_,rfl⟩
    have HS5:=hid hS5
    have HL5 : Hid (S5.length = S4.length):=hid (by rw [hS5];simp)
    have he5:=HE4.out.drew.setY HK.out (S4.length : Int)
    rw [← hS5] at he5
    have HE5:=hid he5
    have HG5:=hid ((HG4.out.trans (Fm.below (Below.refl _ _).drew)).trans (Fm.row (M:=M) HE4.out.drew.row (S.length * 7 + 6) (.int .i64 (S4.length : Int))))
    clear hS5 he5 b5 b6 z5 z6 m2 a1 a2 a3 a4 i0 i1
    go_wp2_with fail
    refine (HIB.out (i + 1 + (flat a).length) S5 _ _ HAT.out.alt.2.2 (by have:=HL5.out;have:=HL4.out;have:=HL3.out;omega) HE5.out).mono ?_
    rintro e w6 ⟨rfl,v6,henv,hfm⟩
    obtain ⟨S6,hS6⟩ : ∃ X,X = S5 ++ code b S5.length:=⟨_,rfl⟩
    have HS6:=hid hS6
    have HL6 : Hid (S6.length = S.length + 2 + sz a + sz b):=hid (by have:=HL5.out;have:=HL4.out;have:=HL3.out;rw [hS6];simp [code_len];omega)
    rw [← hS6] at henv
    clear hS6
    have hB6 : S6.length ≤ 1000:=by have:=HL6.out;omega
    have HE6:=hid henv
    have HG6:=hid (HG5.out.trans hfm)
    clear henv hfm
    obtain ⟨g',c',rfl⟩:=HE6.out.form (by have:=HL6.out;omega)
    obtain ⟨a1,a2,a3,a4,a5,a6⟩:=HE6.out.step
    have hk : S6[S3.length]? = some ⟨2,(0,0,0,0),0,0⟩:=by
     have h3:=HL3.out
     rw [HS6.out,List.getElem?_append_left (by have:=HL5.out;have:=HL4.out;omega),HS5.out,List.getElem?_set_ne (by omega),HS4.out]
     simp
    obtain ⟨b5,b6⟩:=a6 _ _ hk
    have z6:=a5 (S3.length * 7 + 6)
    have z5:=a5 (S3.length * 7 + 5)
    have b6' : ∀ u,(w6.drew.setCell ⟨g',S3.length * 7 + 5,none⟩ u).cell? ⟨g',S3.length * 7 + 6,none⟩ = some (.int .i64 0):=fun u => (World.cell?_setCell_other _ _ _ _ (by simp)).trans b6
    have b5' : ∀ u,(w6.drew.setCell ⟨g',S3.length * 7 + 6,none⟩ u).cell? ⟨g',S3.length * 7 + 5,none⟩ = some (.int .i64 0):=fun u => (World.cell?_setCell_other _ _ _ _ (by simp)).trans b5
    have m2:=HE6.out.mb.cell 2
    simp only [List.getElem?_toArray,List.getElem?_cons_succ,List.getElem?_cons_zero] at m2
    have i1 : ((S3.length : Nat) : Int) < (S6.length : Int):=by have:=HL6.out;have:=HL3.out;omega
    have i0 : (0 : Int) ≤ ((S3.length : Nat) : Int):=by omega
    have HK6:=hid hk
    clear a5 a6 hk
    go_wp2_with fail
    have m2a : w6.drew.cell? ⟨M,2,none⟩ = some (.slice (some ⟨g',0,none⟩) S6.length c'):=m2
    have m2b : ∀ u,(w6.drew.setCell ⟨g',S3.length * 7 + 5,none⟩ u).cell? ⟨M,2,none⟩ = some (.slice (some ⟨g',0,none⟩) S6.length c'):=fun u => (World.cell?_setCell_other _ _ _ _ (by simp <;> omega)).trans m2
    have m2c : ∀ u u',((w6.drew.setCell ⟨g',S3.length * 7 + 5,none⟩ u).setCell ⟨g',S3.length * 7 + 6,none⟩ u').cell? ⟨M,2,none⟩ = some (.slice (some ⟨g',0,none⟩) S6.length c'):=fun u u' => (World.cell?_setCell_other _ _ _ _ (by simp <;> omega)).trans (m2b u)
    have HNX6:=hid (next_any _ _ _ _ _ _ _ S6 (.slice (some ⟨g',0,none⟩) S6.length c') _ HE6.out.drew)
    go_region_held3 (fun w' => w'.cell? ⟨M,2,none⟩ = some (.slice (some ⟨g',0,none⟩) S6.length c')) (first | exact m2a | exact m2b _ | exact m2c _ _) (first | (go_at_call 184;refine HNX6.out.mono ?_;rintro e w' ⟨rfl,rfl⟩))
    all_goals (
     go_wp2_with fail
     go_end0
     exact ⟨rfl,_,(by first | exact (HE6.out.drew.setXY HK6.out (S6.length : Int) (S6.length : Int)).cast rfl rfl | exact ((HE6.out.setXY HK6.out (S6.length : Int) (S6.length : Int)).drew).cast rfl rfl : MEnv _ _ _ _ _ _ _ (S6.set S3.length ⟨2,(0,0,0,0),(S6.length : Int),(S6.length : Int)⟩) _ _).cast (by simp [flat] <;> omega) (alt_list HS2.out HS3.out HS4.out HS5.out HS6.out HL3.out HL4.out HL6.out),HF.out.trans ((HG6.out.trans (Fm.below (Below.refl _ _).drew)).trans ((Fm.row HE6.out.drew.row _ _).trans (Fm.row (by obtain ⟨cur,hc⟩:=HE6.out.drew.row;exact ⟨_,hc.set_ _ _⟩) _ _)))⟩))
def OfIs (t : Rx) (w : World) (e : Ending) (w' : World) : Prop :=
 ∃ g cap,e = .returned (.tuple #[.slice (some ⟨g,0,none⟩) (progL t).length cap,.nilIface]) ∧ RdS w' (.slice (some ⟨g,0,none⟩) (progL t).length cap) (progL t) ∧ (w.heap.size ≤ g ∧ Below w.heap.size w w')
theorem Of_ok (l : List Nd) (t : Rx) (hl : l = flat t) (v : Value) (w : World) (ht : l.length ≤ 60) (hr : RdN w v l) : Calls Tryz.prog 129 #[v] w (OfIs t w):=by
 obtain ⟨A,cap,rfl,hcap,hcap2,hmem⟩:=hr.open_
 have hpos : 0 < l.length:=by rw [hl];exact flat_pos t
 have hchk : chk l = 0:=by rw [hl];exact chk_flat t (by rw [← hl];exact ht)
 obtain ⟨b,off,rfl,hbl,hcells⟩:=hmem hpos
 have hwhole : At l 0 t:=by rw [hl];exact At.whole t
 have hsz:=sz_le t
 rw [← hl] at hsz
 have HMK:=hid (fun (w1 : World) (h1 : Below w.heap.size w w1) (M : Nat) (v : Value) (W : World) (h : MEnv w1 b off l.length cap M 0 [] v W) => make_all w1 l b off cap M ht hcap hcap2 (fun w' hb k n hk => hcells w' (fun o => (h1.trans (hb.mono h1.size)).cell (p:=⟨b,o,none⟩) hbl) k n hk) t 0 [] v W hwhole (by simp;omega) h)
 have HR:=hid hr
 have HC:=hid hchk
 have HPL:=hid (progL_len t)
 have HS2 : Hid (∀ (g c : Nat),RdS w (.slice (some ⟨g,0,none⟩) (progL t).length c) (progL t) → True):=hid (fun _ _ _ => trivial)
 clear hr hchk hcells hwhole hl hmem
 go_enter Tryz.func129,Tryz.ntmps129
 go_wp2_with fail
 refine (Check_any l _ _ HR.out).mono ?_
 rintro e w1 ⟨rfl,hb1⟩
 rw [HC.out,errV_zero]
 have henv : MEnv w1 b off l.length cap w1.heap.size 0 [] (.slice none 0 0) (w1.alloc (.cells #[.slice (some ⟨b,off,none⟩) l.length cap,.int .i64 0,.slice none 0 0] 259)) :=
  ⟨Blk.new w1 _ _,World.ownsRow_nil _ _ _ _,(Below.refl _ _).alloc (Nat.le_refl _) _,Nat.le_refl _⟩
 have HENV:=hid henv
 have HB:=hid hb1
 clear henv hb1
 go_wp2_with fail
 refine (HMK.out w1 HB.out _ _ _ HENV.out).mono ?_
 rintro e w2 ⟨rfl,v2,henv2,_⟩
 obtain ⟨S2,hS2⟩ : ∃ X,X = [] ++ code t ([] : List St).length:=⟨_,rfl⟩
 have HSC : Hid (S2 = code t 0):=hid (by rw [hS2];rfl)
 rw [← hS2] at henv2
 clear hS2
 have hB2 : S2.length ≤ 1000:=by rw [HSC.out,code_len];omega
 have HENV2:=hid henv2
 clear henv2
 go_wp2_with fail
 refine (emit_any _ _ _ _ _ _ _ S2 v2 5 0 0 0 0 0 0 _ hB2 HENV2.out).mono ?_
 rintro e w3 ⟨rfl,v3,henv3,_⟩
 obtain ⟨P,hP⟩ : ∃ X,X = S2 ++ [(⟨5,(0,0,0,0),0,0⟩ : St)]:=⟨_,rfl⟩
 have HP : Hid (P = progL t):=hid (by rw [hP,HSC.out];rfl)
 rw [← hP] at henv3
 clear hP
 obtain ⟨g,c,rfl⟩:=henv3.form (by rw [HP.out,HPL.out];omega)
 have m2:=henv3.mb.cell 2
 simp only [List.getElem?_toArray,List.getElem?_cons_succ,List.getElem?_cons_zero] at m2
 have HENV3:=hid henv3
 clear henv3
 go_wp2_with fail
 go_ret2
 refine ⟨g,c,?_,?_,Nat.le_trans HB.out.size (Nat.le_of_lt HENV3.out.step.1),HB.out.trans (HENV3.out.bel.mono HB.out.size)⟩
 ·rw [← HP.out];rfl
 ·rw [← HP.out];exact Rd.of_own HENV3.out.own
end Go.Proofs.YthhcpbfgoofppaaGreatDoor
