/-
  Pu, Idx, Pset, Pfac.
-/
import Derived.Test.YthhcpbfgoofppaaGreatDoorGPh
import Derived.Test.YthhcpbfgoofppaaGreatDoorGPl
import Derived.Test.YthhcpbfgoofppaaGreatDoorGPy
import Derived.Shelf.Pu.ToError
import Derived.Shelf.Pu.Lower
import Derived.Below
import Derived.Test.YthhcpbfgoofppaaGreatDoorProg
import Derived.Shelf.Small.Strs
import Derived.Shelf.Strings.BuilderK
set_option linter.unusedVariables false
set_option linter.unusedSimpArgs false
namespace Go.Proofs.YthhcpbfgoofppaaGreatDoor
open Go.Shelf Go.RowKit
def ren_layErr : Go.Shelf.Ren:=⟨fun | 17 => 84 | 21 => 120 | 22 => 121 | 23 => 122 | 24 => 123 | 25 => 153 | 26 => 154 | 27 => 20 | 28 => 46 | 29 => 74 | 30 => 107 | 31 => 108 | 32 => 109 | 33 => 110 | 34 => 143 | 35 => 144 | 36 => 145 | 37 => 146 | 38 => 147 | 39 => 173 | 40 => 174 | n => n,fun | 0 => 0 | 2 => 2 | 3 => 3 | 4 => 4 | 5 => 5 | 9 => 9 | 20 => 20 | 22 => 110 | 24 => 36 | 34 => 210 | 36 => 126 | 37 => 30 | 39 => 213 | 44 => 252 | 47 => 78 | 48 => 283 | 50 => 285 | 52 => 182 | 55 => 185 | 59 => 244 | 60 => 177 | 61 => 245 | 65 => 304 | 66 => 305 | 67 => 39 | n => n,fun | 0 => 3 | 1 => 4 | 2 => 2 | 3 => 5 | 4 => 6 | n => n⟩
theorem layErr : Go.Proofs.LaysPu.n17 Tryz.prog ren_layErr:={
 mixed:=by kernel_rfl
 f17:=Tryz.func84.trans (congrArg some (by kernel_rfl))
 f21:=Tryz.func120.trans (congrArg some (by kernel_rfl))
 f22:=Tryz.func121.trans (congrArg some (by kernel_rfl))
 f23:=Tryz.func122.trans (congrArg some (by kernel_rfl))
 f24:=Tryz.func123.trans (congrArg some (by kernel_rfl))
 f25:=Tryz.func153.trans (congrArg some (by kernel_rfl))
 f26:=Tryz.func154.trans (congrArg some (by kernel_rfl))
 f27:=Tryz.func20.trans (congrArg some (by kernel_rfl))
 f28:=Tryz.func46.trans (congrArg some (by kernel_rfl))
 f29:=Tryz.func74.trans (congrArg some (by kernel_rfl))
 f30:=Tryz.func107.trans (congrArg some (by kernel_rfl))
 f31:=Tryz.func108.trans (congrArg some (by kernel_rfl))
 f32:=Tryz.func109.trans (congrArg some (by kernel_rfl))
 f33:=Tryz.func110.trans (congrArg some (by kernel_rfl))
 f34:=Tryz.func143.trans (congrArg some (by kernel_rfl))
 f35:=Tryz.func144.trans (congrArg some (by kernel_rfl))
 f36:=Tryz.func145.trans (congrArg some (by kernel_rfl))
 f37:=Tryz.func146.trans (congrArg some (by kernel_rfl))
 f38:=Tryz.func147.trans (congrArg some (by kernel_rfl))
 f39:=Tryz.func173.trans (congrArg some (by kernel_rfl))
 f40:=Tryz.func174.trans (congrArg some (by kernel_rfl))
 t0:=Tryz.underlying0
 a0:=Tryz.isAgg0
 z0:=Tryz.sizeOf0
 v0:=Tryz.zeroValue0
 i0:=by kernel_rfl
 t2:=Tryz.underlying2
 a2:=Tryz.isAgg2
 z2:=Tryz.sizeOf2
 v2:=Tryz.zeroValue2
 i2:=by kernel_rfl
 t3:=Tryz.underlying3
 a3:=Tryz.isAgg3
 z3:=Tryz.sizeOf3
 v3:=Tryz.zeroValue3
 i3:=by kernel_rfl
 t4:=Tryz.underlying4
 a4:=Tryz.isAgg4
 z4:=Tryz.sizeOf4
 v4:=Tryz.zeroValue4
 i4:=by kernel_rfl
 t5:=Tryz.underlying5
 a5:=Tryz.isAgg5
 z5:=Tryz.sizeOf5
 v5:=Tryz.zeroValue5
 i5:=by kernel_rfl
 t9:=Tryz.underlying9
 a9:=Tryz.isAgg9
 z9:=Tryz.sizeOf9
 v9:=Tryz.zeroValue9
 i9:=by kernel_rfl
 t20:=Tryz.underlying20
 a20:=Tryz.isAgg20
 z20:=Tryz.sizeOf20
 v20:=Tryz.zeroValue20
 i20:=by kernel_rfl
 t22:=Tryz.underlying110
 a22:=Tryz.isAgg110
 z22:=Tryz.sizeOf110
 v22:=Tryz.zeroValue110
 i22:=by kernel_rfl
 t24:=Tryz.underlying36
 a24:=Tryz.isAgg36
 z24:=Tryz.sizeOf36
 v24:=Tryz.zeroValue36
 i24:=by kernel_rfl
 t34:=Tryz.underlying210
 a34:=Tryz.isAgg210
 z34:=Tryz.sizeOf210
 v34:=Tryz.zeroValue210
 i34:=by kernel_rfl
 c34:=by kernel_rfl
 t36:=Tryz.underlying126
 a36:=Tryz.isAgg126
 z36:=Tryz.sizeOf126
 v36:=Tryz.zeroValue126
 i36:=by kernel_rfl
 t37:=Tryz.underlying30
 a37:=Tryz.isAgg30
 z37:=Tryz.sizeOf30
 v37:=Tryz.zeroValue30
 i37:=by kernel_rfl
 t39:=Tryz.underlying213
 a39:=Tryz.isAgg213
 z39:=Tryz.sizeOf213
 v39:=Tryz.zeroValue213
 i39:=by kernel_rfl
 t44:=Tryz.underlying252
 a44:=Tryz.isAgg252
 z44:=Tryz.sizeOf252
 v44:=Tryz.zeroValue252
 i44:=by kernel_rfl
 t47:=Tryz.underlying78
 a47:=Tryz.isAgg78
 z47:=Tryz.sizeOf78
 v47:=Tryz.zeroValue78
 i47:=by kernel_rfl
 t48:=Tryz.underlying283
 a48:=Tryz.isAgg283
 z48:=Tryz.sizeOf283
 v48:=Tryz.zeroValue283
 i48:=by kernel_rfl
 t50:=Tryz.underlying285
 a50:=Tryz.isAgg285
 z50:=Tryz.sizeOf285
 v50:=Tryz.zeroValue285
 i50:=by kernel_rfl
 t52:=Tryz.underlying182
 a52:=Tryz.isAgg182
 z52:=Tryz.sizeOf182
 v52:=Tryz.zeroValue182
 i52:=by kernel_rfl
 t55:=Tryz.underlying185
 a55:=Tryz.isAgg185
 z55:=Tryz.sizeOf185
 v55:=Tryz.zeroValue185
 i55:=by kernel_rfl
 t59:=Tryz.underlying244
 a59:=Tryz.isAgg244
 z59:=Tryz.sizeOf244
 v59:=Tryz.zeroValue244
 i59:=by kernel_rfl
 t60:=Tryz.underlying177
 a60:=Tryz.isAgg177
 z60:=Tryz.sizeOf177
 v60:=Tryz.zeroValue177
 i60:=by kernel_rfl
 t61:=Tryz.underlying245
 a61:=Tryz.isAgg245
 z61:=Tryz.sizeOf245
 t65:=Tryz.underlying304
 a65:=Tryz.isAgg304
 z65:=Tryz.sizeOf304
 v65:=Tryz.zeroValue304
 i65:=by kernel_rfl
 t66:=Tryz.underlying305
 a66:=Tryz.isAgg305
 z66:=Tryz.sizeOf305
 v66:=Tryz.zeroValue305
 i66:=by kernel_rfl
 t67:=Tryz.underlying39
 a67:=Tryz.isAgg39
 z67:=Tryz.sizeOf39
 v67:=Tryz.zeroValue39
 i67:=by kernel_rfl
 g0:=by kernel_rfl
 m0:=by kernel_rfl
 g1:=by kernel_rfl
 m1:=by kernel_rfl
 g2:=by kernel_rfl
 m2:=by kernel_rfl
 g3:=by kernel_rfl
 m3:=by kernel_rfl
 g4:=by kernel_rfl
 m4:=by kernel_rfl }
def ren_layLow : Go.Shelf.Ren:=⟨fun | 19 => 178 | n => n,fun | 5 => 5 | n => n,fun n => n⟩
theorem layLow : Go.Proofs.LaysPu.n19 Tryz.prog ren_layLow:={
 mixed:=by kernel_rfl
 f19:=Tryz.func178.trans (congrArg some (by kernel_rfl))
 t5:=Tryz.underlying5
 a5:=Tryz.isAgg5
 z5:=Tryz.sizeOf5
 v5:=Tryz.zeroValue5
 i5:=by kernel_rfl }
def ren_layIdx : Go.Shelf.Ren:=⟨fun | 137 => 170 | 217 => 66 | 266 => 100 | n => n,fun | 3 => 3 | 5 => 5 | 9 => 9 | n => n,fun n => n⟩
theorem layIdx : Go.Proofs.Lays.n137 Tryz.prog ren_layIdx:={
 mixed:=by kernel_rfl
 f137:=Tryz.func170.trans (congrArg some (by kernel_rfl))
 f217:=Tryz.func66.trans (congrArg some (by kernel_rfl))
 f266:=Tryz.func100.trans (congrArg some (by kernel_rfl))
 t3:=Tryz.underlying3
 a3:=Tryz.isAgg3
 z3:=Tryz.sizeOf3
 v3:=Tryz.zeroValue3
 t5:=Tryz.underlying5
 a5:=Tryz.isAgg5
 z5:=Tryz.sizeOf5
 v5:=Tryz.zeroValue5
 t9:=Tryz.underlying9
 a9:=Tryz.isAgg9
 z9:=Tryz.sizeOf9
 v9:=Tryz.zeroValue9 }
theorem IndexB_c (s : ByteArray) (c : Int) (w : World) : Calls Tryz.prog 170 #[.string s,.int .u8 c] w (fun e w' => e = .returned (.int .i64 (Lib.indexByte s.data.toList c.toNat.toUInt8)) ∧ w' = w):=Any.strings_IndexByte layIdx s c w
end Go.Proofs.YthhcpbfgoofppaaGreatDoor
namespace Wf
def parseE (s : ByteArray) : Int × Nat × Option Rx :=
 if 200 < s.size then (3,0,none) else match orS s.data.toList 0 with
 | .bad k => (5,k,none)
 | .ok t j => if j = s.size then (if (flat t).length ≤ 60 then (0,0,some t) else (3,0,none)) else (5,j,none)
theorem parseE_zero {s : ByteArray} : (parseE s).1 = 0 ↔ ∃ t,(parseE s).2.2 = some t:=by
 unfold parseE
 split
 ·simp
 ·split
  ·simp
  ·split
   ·split <;> simp
   ·simp
theorem parseE_some {s : ByteArray} {t : Rx} (h : (parseE s).2.2 = some t) : s.size ≤ 200 ∧ orS s.data.toList 0 = .ok t s.size ∧ (flat t).length ≤ 60 ∧ okT t ∧ parseE s = (0,0,some t):=by
 have hsz : s.data.toList.length = s.size:=by simp
 unfold parseE at h ⊢
 split at h
 ·cases h
 ·rename_i hs
  rw [if_neg hs]
  cases hr : orS s.data.toList 0 with
  | bad k => rw [hr] at h;cases h
  | ok u j =>
    rw [hr] at h
    dsimp only at h ⊢
    split at h
    ·rename_i hj
     split at h
     ·rename_i hf
      cases h
      obtain ⟨_,_,hok,_⟩:=(read_ok (s:=s.data.toList) _ 0 (Nat.le_refl _) (Nat.zero_le _)).2.2 _ _ hr
      exact ⟨by omega,by rw [hj],hf,hok,by rw [if_pos hj,if_pos hf]⟩
     ·cases h
    ·cases h
structure Mb where
 id : Nat
 text : ByteArray
 t : Rx
structure SS where
 ms : List Mb
 last : Nat
 on : Bool
 tried : Nat
def SS.zero : SS:=⟨[],0,false,0⟩
def SS.added (m : SS) (s : ByteArray) : Nat × Nat × Int :=
 if (parseE s).1 ≠ 0 then (0,(parseE s).2.1,(parseE s).1) else if m.ms.length < 12 then (m.last + 1,0,0) else (0,0,3)
def SS.add (m : SS) (s : ByteArray) : SS :=
 match (parseE s).2.2 with
 | none => m
 | some t => if m.ms.length < 12 then { m with ms:=m.ms ++ [⟨m.last + 1,s,t⟩],last:=m.last + 1 } else m
def SS.place (m : SS) (id : Int) : Option Nat:=m.ms.findIdx? fun x => decide ((x.id : Int) = id)
def SS.removed (m : SS) (id : Int) : Int:=match m.place id with | none => 4 | some _ => 0
def SS.remove (m : SS) (id : Int) : SS:=match m.place id with | none => m | some k => { m with ms:=m.ms.eraseIdx k }
def stands (n s : List UInt8) : Bool:=(List.range (s.length + 1)).any fun i => n.isPrefixOf (s.drop i)
def SS.tries (m : SS) (s : List UInt8) : List Mb:=m.ms.filter fun x => !m.on || stands (litL x.t).1 s
noncomputable def hitsOf (s : List UInt8) (x : Mb) : List (Nat × Nat × Nat):=(spansO s x.t 0).map fun p => (x.id,p.1,p.2)
noncomputable def SS.hits (m : SS) (s : List UInt8) : List (Nat × Nat × Nat):=m.ms.flatMap (hitsOf s)
def SS.scan (m : SS) (s : List UInt8) : SS:=if s.length ≤ 400 then { m with tried:=(m.tries s).length } else m
theorem stands_iff {n s : List UInt8} : stands n s = true ↔ ∃ p q,s = p ++ n ++ q:=by
 unfold stands
 rw [List.any_eq_true]
 constructor
 ·rintro ⟨i,hi,h⟩
  obtain ⟨q,hq⟩:=List.isPrefixOf_iff_prefix.1 h
  exact ⟨s.take i,q,by rw [List.append_assoc,hq,List.take_append_drop]⟩
 ·rintro ⟨p,q,rfl⟩
  refine ⟨p.length,by simp;omega,List.isPrefixOf_iff_prefix.2 ⟨q,?_⟩⟩
  rw [List.append_assoc,List.drop_left]
theorem not_tried {s : List UInt8} {t : Rx} (h : stands (litL t).1 s = false) : spansO s t 0 = []:=by
 have hf : foundO s t 0 = none:=by
  rw [found_none]
  intro i j hi hj hf
  obtain ⟨⟨p,q,hpq⟩,_⟩:=fits_lit s t i j hf hi
  have : stands (litL t).1 s = true:=stands_iff.2 ⟨s.take i ++ p,q ++ s.drop (max i j),by
   have hb:=(fits_bound s t i j hf hi).1
   rw [Nat.max_eq_right hb]
   unfold sub at hpq
   have e : s = s.take i ++ ((s.drop i).take (j - i) ++ s.drop j):=by
    conv => lhs;rw [← List.take_append_drop i s]
    congr 1
    conv => lhs;rw [← List.take_append_drop (j - i) (s.drop i)]
    rw [List.drop_drop,Nat.add_sub_cancel' hb]
   conv => lhs;rw [e,hpq]
   simp⟩
  rw [this] at h;cases h
 exact allO_none hf
structure SS.ok (m : SS) : Prop where
 len : m.ms.length ≤ 12
 up : m.ms.Pairwise fun x y => x.id < y.id
 pos : ∀ x ∈ m.ms,1 ≤ x.id ∧ x.id ≤ m.last
 read : ∀ x ∈ m.ms,(parseE x.text).2.2 = some x.t
theorem SS.ok_zero : SS.zero.ok:=⟨by simp [SS.zero],by simp [SS.zero],fun x h => (by cases h),fun x h => (by cases h)⟩
theorem SS.ok.add {m : SS} (h : m.ok) (s : ByteArray) : (m.add s).ok:=by
 unfold SS.add
 split
 ·exact h
 ·rename_i t ht
  split
  ·rename_i hl
   refine ⟨by simp;omega,?_,?_,?_⟩
   ·rw [List.pairwise_append]
    refine ⟨h.up,by simp,fun x hx y hy => ?_⟩
    rw [List.mem_singleton.1 hy]
    have:=(h.pos x hx).2
    show x.id < m.last + 1
    omega
   ·intro x hx
    rcases List.mem_append.1 hx with hx | hx
    ·have:=h.pos x hx
     exact ⟨this.1,by show x.id ≤ m.last + 1;omega⟩
    ·rw [List.mem_singleton.1 hx]
     exact ⟨by show 1 ≤ m.last + 1;omega,Nat.le_refl _⟩
   ·intro x hx
    rcases List.mem_append.1 hx with hx | hx
    ·exact h.read x hx
    ·rw [List.mem_singleton.1 hx];exact ht
  ·exact h
theorem SS.ok.remove {m : SS} (h : m.ok) (id : Int) : (m.remove id).ok:=by
 unfold SS.remove
 split
 ·exact h
 ·rename_i k _
  have hsub:=List.eraseIdx_sublist m.ms k
  exact ⟨Nat.le_trans hsub.length_le h.len,h.up.sublist hsub,fun x hx => h.pos x (hsub.subset hx),fun x hx => h.read x (hsub.subset hx)⟩
theorem SS.ok.tried {m : SS} (h : m.ok) (on : Bool) (n : Nat) : SS.ok { m with on:=on,tried:=n }:=⟨h.len,h.up,h.pos,h.read⟩
theorem SS.ok.scan {m : SS} (h : m.ok) (s : List UInt8) : (m.scan s).ok:=by
 unfold SS.scan
 split
 ·exact ⟨h.len,h.up,h.pos,h.read⟩
 ·exact h
theorem SS.last_add (m : SS) (s : ByteArray) : m.last ≤ (m.add s).last ∧ (m.add s).last ≤ m.last + 1:=by
 unfold SS.add
 split
 ·omega
 ·split
  ·show m.last ≤ m.last + 1 ∧ m.last + 1 ≤ m.last + 1;omega
  ·omega
theorem SS.last_remove (m : SS) (id : Int) : (m.remove id).last = m.last:=by unfold SS.remove;split <;> rfl
theorem SS.last_scan (m : SS) (s : List UInt8) : (m.scan s).last = m.last:=by unfold SS.scan;split <;> rfl
def clA : Cls:=(0,8589934592,0,0)
def tAp : Rx:=.plus (.byte clA)
def bAp : ByteArray:=⟨#[97,43]⟩
theorem ok_clA : okC clA:=by unfold okC;decide
theorem ap_ok : okT tAp:=by
 intro n hn
 simp [tAp,flat] at hn
 rcases hn with rfl | rfl
 ·exact okC_zc
 ·exact ok_clA
theorem parse_of (T : ByteArray) (t : Rx) (hok : okT t) (hT : textT t = T.data.toList) (hs : T.size ≤ 200) (hf : (flat t).length ≤ 60) : parseE T = (0,0,some t):=by
 have hw:=print_whole t hok
 rw [hT] at hw
 unfold parseE
 rw [if_neg (by omega),hw]
 dsimp only
 rw [if_pos (by simp),if_pos hf]
theorem parse_ap : parseE bAp = (0,0,some tAp):=parse_of _ _ ap_ok (by decide +kernel) (by decide) (by decide)
def oneM (T : ByteArray) (t : Rx) (on : Bool) (n : Nat) : SS:=⟨[⟨1,T,t⟩],1,on,n⟩
theorem zero_add {T : ByteArray} {t : Rx} (h : parseE T = (0,0,some t)) : SS.zero.add T = oneM T t false 0 ∧ SS.zero.added T = (1,0,0):=by
 unfold SS.add SS.added
 rw [h]
 exact ⟨rfl,rfl⟩
theorem one_hits (T : ByteArray) (t : Rx) (on : Bool) (n : Nat) (s : List UInt8) : (oneM T t on n).hits s = (spansO s t 0).map fun p => (1,p.1,p.2):=by
 simp [SS.hits,oneM,hitsOf]
theorem ap_spans : spansO [98,97,97] tAp 0 = [(1,3)]:=by
 rw [spans_eq (by decide +kernel)]
 decide +kernel
theorem ap_hits (n : Nat) : (oneM bAp tAp false n).hits [98,97,97] = [(1,1,3)]:=by rw [one_hits,ap_spans];rfl
theorem tries_off (m : SS) (s : List UInt8) (h : m.on = false) : m.tries s = m.ms:=by
 unfold SS.tries
 rw [h]
 simp
theorem tries_le (m : SS) (s : List UInt8) : (m.tries s).length ≤ m.ms.length:=List.length_filter_le _ _
end Wf
