/-
  Pu, Idx, Pset.
-/
import Derived.Test.YthcahjnniendnacGreatDoorGPh
import Derived.Test.YthcahjnniendnacGreatDoorGPl
import Derived.Test.YthcahjnniendnacGreatDoorGPy
import Derived.Shelf.Pu.ToError
import Derived.Shelf.Pu.Lower
import Derived.Below
import Derived.Test.YthcahjnniendnacGreatDoorProg
import Derived.Shelf.Small.Strs
import Derived.Shelf.Strings.BuilderK
set_option linter.unusedVariables false
set_option linter.unusedSimpArgs false
namespace Go.Proofs.YthcahjnniendnacGreatDoor
open Go.Shelf Go.RowKit
def ren_layErr : Go.Shelf.Ren:=⟨fun | 17 => 177 | 21 => 180 | 22 => 181 | 23 => 182 | 24 => 183 | 25 => 184 | 26 => 185 | 27 => 186 | 28 => 187 | 29 => 188 | 30 => 189 | 31 => 190 | 32 => 191 | 33 => 192 | 34 => 193 | 35 => 161 | 36 => 194 | 37 => 195 | 38 => 196 | 39 => 197 | 40 => 198 | n => n,fun | 0 => 0 | 2 => 2 | 3 => 3 | 4 => 4 | 5 => 5 | 9 => 9 | 20 => 20 | 22 => 37 | 24 => 27 | 34 => 288 | 36 => 218 | 37 => 89 | 39 => 291 | 44 => 296 | 47 => 131 | 48 => 298 | 50 => 300 | 52 => 302 | 55 => 304 | 59 => 307 | 60 => 271 | 61 => 308 | 65 => 309 | 66 => 310 | 67 => 94 | n => n,fun | 0 => 2 | 1 => 3 | 2 => 4 | 3 => 5 | 4 => 6 | n => n⟩
theorem layErr : Go.Proofs.LaysPu.n17 Tryz.prog ren_layErr:={
 mixed:=by kernel_rfl
 f17:=Tryz.func177.trans (congrArg some (by kernel_rfl))
 f21:=Tryz.func180.trans (congrArg some (by kernel_rfl))
 f22:=Tryz.func181.trans (congrArg some (by kernel_rfl))
 f23:=Tryz.func182.trans (congrArg some (by kernel_rfl))
 f24:=Tryz.func183.trans (congrArg some (by kernel_rfl))
 f25:=Tryz.func184.trans (congrArg some (by kernel_rfl))
 f26:=Tryz.func185.trans (congrArg some (by kernel_rfl))
 f27:=Tryz.func186.trans (congrArg some (by kernel_rfl))
 f28:=Tryz.func187.trans (congrArg some (by kernel_rfl))
 f29:=Tryz.func188.trans (congrArg some (by kernel_rfl))
 f30:=Tryz.func189.trans (congrArg some (by kernel_rfl))
 f31:=Tryz.func190.trans (congrArg some (by kernel_rfl))
 f32:=Tryz.func191.trans (congrArg some (by kernel_rfl))
 f33:=Tryz.func192.trans (congrArg some (by kernel_rfl))
 f34:=Tryz.func193.trans (congrArg some (by kernel_rfl))
 f35:=Tryz.func161.trans (congrArg some (by kernel_rfl))
 f36:=Tryz.func194.trans (congrArg some (by kernel_rfl))
 f37:=Tryz.func195.trans (congrArg some (by kernel_rfl))
 f38:=Tryz.func196.trans (congrArg some (by kernel_rfl))
 f39:=Tryz.func197.trans (congrArg some (by kernel_rfl))
 f40:=Tryz.func198.trans (congrArg some (by kernel_rfl))
 t0:=Tryz.underlying0
 a0:=Tryz.isAgg0
 z0:=Tryz.sizeOf0
 v0:=Tryz.zeroValue0
 i0:=by kernel_rfl
 t2:=Tryz.underlying2
 a2:=Tryz.isAgg2
 z2:=Tryz.sizeOf2
 v2:=Tryz.zeroValue2
 i2:=by kernel_rfl
 t3:=Tryz.underlying3
 a3:=Tryz.isAgg3
 z3:=Tryz.sizeOf3
 v3:=Tryz.zeroValue3
 i3:=by kernel_rfl
 t4:=Tryz.underlying4
 a4:=Tryz.isAgg4
 z4:=Tryz.sizeOf4
 v4:=Tryz.zeroValue4
 i4:=by kernel_rfl
 t5:=Tryz.underlying5
 a5:=Tryz.isAgg5
 z5:=Tryz.sizeOf5
 v5:=Tryz.zeroValue5
 i5:=by kernel_rfl
 t9:=Tryz.underlying9
 a9:=Tryz.isAgg9
 z9:=Tryz.sizeOf9
 v9:=Tryz.zeroValue9
 i9:=by kernel_rfl
 t20:=Tryz.underlying20
 a20:=Tryz.isAgg20
 z20:=Tryz.sizeOf20
 v20:=Tryz.zeroValue20
 i20:=by kernel_rfl
 t22:=Tryz.underlying37
 a22:=Tryz.isAgg37
 z22:=Tryz.sizeOf37
 v22:=Tryz.zeroValue37
 i22:=by kernel_rfl
 t24:=Tryz.underlying27
 a24:=Tryz.isAgg27
 z24:=Tryz.sizeOf27
 v24:=Tryz.zeroValue27
 i24:=by kernel_rfl
 t34:=Tryz.underlying288
 a34:=Tryz.isAgg288
 z34:=Tryz.sizeOf288
 v34:=Tryz.zeroValue288
 i34:=by kernel_rfl
 c34:=by kernel_rfl
 t36:=Tryz.underlying218
 a36:=Tryz.isAgg218
 z36:=Tryz.sizeOf218
 v36:=Tryz.zeroValue218
 i36:=by kernel_rfl
 t37:=Tryz.underlying89
 a37:=Tryz.isAgg89
 z37:=Tryz.sizeOf89
 v37:=Tryz.zeroValue89
 i37:=by kernel_rfl
 t39:=Tryz.underlying291
 a39:=Tryz.isAgg291
 z39:=Tryz.sizeOf291
 v39:=Tryz.zeroValue291
 i39:=by kernel_rfl
 t44:=Tryz.underlying296
 a44:=Tryz.isAgg296
 z44:=Tryz.sizeOf296
 v44:=Tryz.zeroValue296
 i44:=by kernel_rfl
 t47:=Tryz.underlying131
 a47:=Tryz.isAgg131
 z47:=Tryz.sizeOf131
 v47:=Tryz.zeroValue131
 i47:=by kernel_rfl
 t48:=Tryz.underlying298
 a48:=Tryz.isAgg298
 z48:=Tryz.sizeOf298
 v48:=Tryz.zeroValue298
 i48:=by kernel_rfl
 t50:=Tryz.underlying300
 a50:=Tryz.isAgg300
 z50:=Tryz.sizeOf300
 v50:=Tryz.zeroValue300
 i50:=by kernel_rfl
 t52:=Tryz.underlying302
 a52:=Tryz.isAgg302
 z52:=Tryz.sizeOf302
 v52:=Tryz.zeroValue302
 i52:=by kernel_rfl
 t55:=Tryz.underlying304
 a55:=Tryz.isAgg304
 z55:=Tryz.sizeOf304
 v55:=Tryz.zeroValue304
 i55:=by kernel_rfl
 t59:=Tryz.underlying307
 a59:=Tryz.isAgg307
 z59:=Tryz.sizeOf307
 v59:=Tryz.zeroValue307
 i59:=by kernel_rfl
 t60:=Tryz.underlying271
 a60:=Tryz.isAgg271
 z60:=Tryz.sizeOf271
 v60:=Tryz.zeroValue271
 i60:=by kernel_rfl
 t61:=Tryz.underlying308
 a61:=Tryz.isAgg308
 z61:=Tryz.sizeOf308
 t65:=Tryz.underlying309
 a65:=Tryz.isAgg309
 z65:=Tryz.sizeOf309
 v65:=Tryz.zeroValue309
 i65:=by kernel_rfl
 t66:=Tryz.underlying310
 a66:=Tryz.isAgg310
 z66:=Tryz.sizeOf310
 v66:=Tryz.zeroValue310
 i66:=by kernel_rfl
 t67:=Tryz.underlying94
 a67:=Tryz.isAgg94
 z67:=Tryz.sizeOf94
 v67:=Tryz.zeroValue94
 i67:=by kernel_rfl
 g0:=by kernel_rfl
 m0:=by kernel_rfl
 g1:=by kernel_rfl
 m1:=by kernel_rfl
 g2:=by kernel_rfl
 m2:=by kernel_rfl
 g3:=by kernel_rfl
 m3:=by kernel_rfl
 g4:=by kernel_rfl
 m4:=by kernel_rfl }
def ren_layLow : Go.Shelf.Ren:=⟨fun | 19 => 178 | n => n,fun | 5 => 5 | n => n,fun n => n⟩
theorem layLow : Go.Proofs.LaysPu.n19 Tryz.prog ren_layLow:={
 mixed:=by kernel_rfl
 f19:=Tryz.func178.trans (congrArg some (by kernel_rfl))
 t5:=Tryz.underlying5
 a5:=Tryz.isAgg5
 z5:=Tryz.sizeOf5
 v5:=Tryz.zeroValue5
 i5:=by kernel_rfl }
def ren_layIdx : Go.Shelf.Ren:=⟨fun | 137 => 115 | 217 => 136 | 266 => 148 | n => n,fun | 3 => 3 | 5 => 5 | 9 => 9 | n => n,fun n => n⟩
theorem layIdx : Go.Proofs.Lays.n137 Tryz.prog ren_layIdx:={
 mixed:=by kernel_rfl
 f137:=Tryz.func115.trans (congrArg some (by kernel_rfl))
 f217:=Tryz.func136.trans (congrArg some (by kernel_rfl))
 f266:=Tryz.func148.trans (congrArg some (by kernel_rfl))
 t3:=Tryz.underlying3
 a3:=Tryz.isAgg3
 z3:=Tryz.sizeOf3
 v3:=Tryz.zeroValue3
 t5:=Tryz.underlying5
 a5:=Tryz.isAgg5
 z5:=Tryz.sizeOf5
 v5:=Tryz.zeroValue5
 t9:=Tryz.underlying9
 a9:=Tryz.isAgg9
 z9:=Tryz.sizeOf9
 v9:=Tryz.zeroValue9 }
theorem IndexB_c (s : ByteArray) (c : Int) (w : World) : Calls Tryz.prog 115 #[.string s,.int .u8 c] w (fun e w' => e = .returned (.int .i64 (Lib.indexByte s.data.toList c.toNat.toUInt8)) ∧ w' = w):=Any.strings_IndexByte layIdx s c w
end Go.Proofs.YthcahjnniendnacGreatDoor
namespace Wf
def parseE (s : ByteArray) : Int × Nat × Option Rx :=
 if 200 < s.size then (3,0,none) else match orS s.data.toList 0 with
 | .bad k => (5,k,none)
 | .ok t j => if j = s.size then (if (flat t).length ≤ 60 then (0,0,some t) else (3,0,none)) else (5,j,none)
theorem parseE_zero {s : ByteArray} : (parseE s).1 = 0 ↔ ∃ t,(parseE s).2.2 = some t:=by
 unfold parseE
 split
 ·simp
 ·split
  ·simp
  ·split
   ·split <;> simp
   ·simp
theorem parseE_some {s : ByteArray} {t : Rx} (h : (parseE s).2.2 = some t) : s.size ≤ 200 ∧ orS s.data.toList 0 = .ok t s.size ∧ (flat t).length ≤ 60 ∧ okT t ∧ parseE s = (0,0,some t):=by
 have hsz : s.data.toList.length = s.size:=by simp
 unfold parseE at h ⊢
 split at h
 ·cases h
 ·rename_i hs
  rw [if_neg hs]
  cases hr : orS s.data.toList 0 with
  | bad k => rw [hr] at h;cases h
  | ok u j =>
    rw [hr] at h
    dsimp only at h ⊢
    split at h
    ·rename_i hj
     split at h
     ·rename_i hf
      cases h
      obtain ⟨_,_,hok,_⟩:=(read_ok (s:=s.data.toList) _ 0 (Nat.le_refl _) (Nat.zero_le _)).2.2 _ _ hr
      exact ⟨by omega,by rw [hj],hf,hok,by rw [if_pos hj,if_pos hf]⟩
     ·cases h
    ·cases h
structure Mb where
 id : Nat
 text : ByteArray
 t : Rx
structure SS where
 ms : List Mb
 last : Nat
 on : Bool
 tried : Nat
def SS.zero : SS:=⟨[],0,false,0⟩
def SS.added (m : SS) (s : ByteArray) : Nat × Nat × Int :=
 if (parseE s).1 ≠ 0 then (0,(parseE s).2.1,(parseE s).1) else if m.ms.length < 12 then (m.last + 1,0,0) else (0,0,3)
def SS.add (m : SS) (s : ByteArray) : SS :=
 match (parseE s).2.2 with
 | none => m
 | some t => if m.ms.length < 12 then { m with ms:=m.ms ++ [⟨m.last + 1,s,t⟩],last:=m.last + 1 } else m
def SS.place (m : SS) (id : Int) : Option Nat:=m.ms.findIdx? fun x => decide ((x.id : Int) = id)
def SS.removed (m : SS) (id : Int) : Int:=match m.place id with | none => 4 | some _ => 0
def SS.remove (m : SS) (id : Int) : SS:=match m.place id with | none => m | some k => { m with ms:=m.ms.eraseIdx k }
def stands (n s : List UInt8) : Bool:=(List.range (s.length + 1)).any fun i => n.isPrefixOf (s.drop i)
def SS.tries (m : SS) (s : List UInt8) : List Mb:=m.ms.filter fun x => !m.on || stands (litL x.t).1 s
noncomputable def hitsOf (s : List UInt8) (x : Mb) : List (Nat × Nat × Nat):=(spansO s x.t 0).map fun p => (x.id,p.1,p.2)
noncomputable def SS.hits (m : SS) (s : List UInt8) : List (Nat × Nat × Nat):=m.ms.flatMap (hitsOf s)
def SS.scan (m : SS) (s : List UInt8) : SS:=if s.length ≤ 400 then { m with tried:=(m.tries s).length } else m
theorem stands_iff {n s : List UInt8} : stands n s = true ↔ ∃ p q,s = p ++ n ++ q:=by
 unfold stands
 rw [List.any_eq_true]
 constructor
 ·rintro ⟨i,hi,h⟩
  obtain ⟨q,hq⟩:=List.isPrefixOf_iff_prefix.1 h
  exact ⟨s.take i,q,by rw [List.append_assoc,hq,List.take_append_drop]⟩
 ·rintro ⟨p,q,rfl⟩
  refine ⟨p.length,by simp;omega,List.isPrefixOf_iff_prefix.2 ⟨q,?_⟩⟩
  rw [List.append_assoc,List.drop_left]
theorem not_tried {s : List UInt8} {t : Rx} (h : stands (litL t).1 s = false) : spansO s t 0 = []:=by
 have hf : foundO s t 0 = none:=by
  rw [found_none]
  intro i j hi hj hf
  obtain ⟨⟨p,q,hpq⟩,_⟩:=fits_lit s t i j hf hi
  have : stands (litL t).1 s = true:=stands_iff.2 ⟨s.take i ++ p,q ++ s.drop (max i j),by
   have hb:=(fits_bound s t i j hf hi).1
   rw [Nat.max_eq_right hb]
   unfold sub at hpq
   have e : s = s.take i ++ ((s.drop i).take (j - i) ++ s.drop j):=by
    conv => lhs;rw [← List.take_append_drop i s]
    congr 1
    conv => lhs;rw [← List.take_append_drop (j - i) (s.drop i)]
    rw [List.drop_drop,Nat.add_sub_cancel' hb]
   conv => lhs;rw [e,hpq]
   simp⟩
  rw [this] at h;cases h
 exact allO_none hf
structure SS.ok (m : SS) : Prop where
 len : m.ms.length ≤ 12
 up : m.ms.Pairwise fun x y => x.id < y.id
 pos : ∀ x ∈ m.ms,1 ≤ x.id ∧ x.id ≤ m.last
 read : ∀ x ∈ m.ms,(parseE x.text).2.2 = some x.t
theorem SS.ok_zero : SS.zero.ok:=⟨by simp [SS.zero],by simp [SS.zero],fun x h => (by cases h),fun x h => (by cases h)⟩
theorem SS.ok.add {m : SS} (h : m.ok) (s : ByteArray) : (m.add s).ok:=by
 unfold SS.add
 split
 ·exact h
 ·rename_i t ht
  split
  ·rename_i hl
   refine ⟨by simp;omega,?_,?_,?_⟩
   ·rw [List.pairwise_append]
    refine ⟨h.up,by simp,fun x hx y hy => ?_⟩
    rw [List.mem_singleton.1 hy]
    have:=(h.pos x hx).2
    show x.id < m.last + 1
    omega
   ·intro x hx
    rcases List.mem_append.1 hx with hx | hx
    ·have:=h.pos x hx
     exact ⟨this.1,by show x.id ≤ m.last + 1;omega⟩
    ·rw [List.mem_singleton.1 hx]
     exact ⟨by show 1 ≤ m.last + 1;omega,Nat.le_refl _⟩
   ·intro x hx
    rcases List.mem_append.1 hx with hx | hx
    ·exact h.read x hx
    ·rw [List.mem_singleton.1 hx];exact ht
  ·exact h
theorem SS.ok.remove {m : SS} (h : m.ok) (id : Int) : (m.remove id).ok:=by
 unfold SS.remove
 split
 ·exact h
 ·rename_i k _
  have hsub:=List.eraseIdx_sublist m.ms k
  exact ⟨Nat.le_trans hsub.length_le h.len,h.up.sublist hsub,fun x hx => h.pos x (hsub.subset hx),fun x hx => h.read x (hsub.subset hx)⟩
theorem SS.ok.tried {m : SS} (h : m.ok) (on : Bool) (n : Nat) : SS.ok { m with on:=on,tried:=n }:=⟨h.len,h.up,h.pos,h.read⟩
theorem SS.ok.scan {m : SS} (h : m.ok) (s : List UInt8) : (m.scan s).ok:=by
 unfold SS.scan
 split
 ·exact ⟨h.len,h.up,h.pos,h.read⟩
 ·exact h
theorem SS.last_add (m : SS) (s : ByteArray) : m.last ≤ (m.add s).last ∧ (m.add s).last ≤ m.last + 1:=by
 unfold SS.add
 split
 ·omega
 ·split
  ·show m.last ≤ m.last + 1 ∧ m.last + 1 ≤ m.last + 1;omega
  ·omega
theorem SS.last_remove (m : SS) (id : Int) : (m.remove id).last = m.last:=by unfold SS.remove;split <;> rfl
theorem SS.last_scan (m : SS) (s : List UInt8) : (m.scan s).last = m.last:=by unfold SS.scan;split <;> rfl
end Wf
