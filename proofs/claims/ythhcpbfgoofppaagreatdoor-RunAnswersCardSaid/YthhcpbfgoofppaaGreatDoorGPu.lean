import Derived.Test.YthhcpbfgoofppaaGreatDoorGPy
import Derived.Test.YthhcpbfgoofppaaGreatDoorHMemS
import Derived.Shelf.Pu.ToError
import Derived.Shelf.Pu.Lower
import Derived.Test.YthhcpbfgoofppaaGreatDoorProg
import Derived.Shelf.Small.Strs
import Derived.Shelf.Strings.BuilderK
set_option linter.unusedVariables false
set_option linter.unusedSimpArgs false
open Wf
open Go.Proofs.Tryz hiding parts
namespace Go.Proofs.YthhcpbfgoofppaaGreatDoor
open Go.Shelf Go.RowKit
def B0I:Go.Shelf.Ren:=⟨λ| 17=>84 | 21=>120 | 22=>121 | 23=>122 | 24=>123 | 25=>153 | 26=>154 | 27=>20 | 28=>46 | 29=>74 | 30=>107 | 31=>108 | 32=>109 | 33=>110 | 34=>143 | 35=>144 | 36=>145 | 37=>146 | 38=>147 | 39=>173 | 40=>174 | n=>n,λ| 0=>0 | 2=>2 | 3=>3 | 4=>4 | 5=>5 | 9=>9 | 20=>20 | 22=>110 | 24=>36 | 34=>210 | 36=>126 | 37=>30 | 39=>213 | 44=>252 | 47=>78 | 48=>283 | 50=>285 | 52=>182 | 55=>185 | 59=>244 | 60=>177 | 61=>245 | 65=>304 | 66=>305 | 67=>39 | n=>n,λ| 0=>3 | 1=>4 | 2=>2 | 3=>5 | 4=>6 | n=>n⟩
theorem B81:Go.Proofs.LaysPu.n17 prog B0I:={
 mixed:=by kernel_rfl
 f17:=func84.trans (congrArg some (by kernel_rfl))
 f21:=func120.trans (congrArg some (by kernel_rfl))
 f22:=func121.trans (congrArg some (by kernel_rfl))
 f23:=func122.trans (congrArg some (by kernel_rfl))
 f24:=func123.trans (congrArg some (by kernel_rfl))
 f25:=func153.trans (congrArg some (by kernel_rfl))
 f26:=func154.trans (congrArg some (by kernel_rfl))
 f27:=func20.trans (congrArg some (by kernel_rfl))
 f28:=func46.trans (congrArg some (by kernel_rfl))
 f29:=func74.trans (congrArg some (by kernel_rfl))
 f30:=func107.trans (congrArg some (by kernel_rfl))
 f31:=func108.trans (congrArg some (by kernel_rfl))
 f32:=func109.trans (congrArg some (by kernel_rfl))
 f33:=func110.trans (congrArg some (by kernel_rfl))
 f34:=func143.trans (congrArg some (by kernel_rfl))
 f35:=func144.trans (congrArg some (by kernel_rfl))
 f36:=func145.trans (congrArg some (by kernel_rfl))
 f37:=func146.trans (congrArg some (by kernel_rfl))
 f38:=func147.trans (congrArg some (by kernel_rfl))
 f39:=func173.trans (congrArg some (by kernel_rfl))
 f40:=func174.trans (congrArg some (by kernel_rfl))
 t0:=underlying0
 a0:=isAgg0
 z0:=sizeOf0
 v0:=zeroValue0
 i0:=by kernel_rfl
 t2:=underlying2
 a2:=isAgg2
 z2:=sizeOf2
 v2:=zeroValue2
 i2:=by kernel_rfl
 t3:=underlying3
 a3:=isAgg3
 z3:=sizeOf3
 v3:=zeroValue3
 i3:=by kernel_rfl
 t4:=underlying4
 a4:=isAgg4
 z4:=sizeOf4
 v4:=zeroValue4
 i4:=by kernel_rfl
 t5:=underlying5
 a5:=isAgg5
 z5:=sizeOf5
 v5:=zeroValue5
 i5:=by kernel_rfl
 t9:=underlying9
 a9:=isAgg9
 z9:=sizeOf9
 v9:=zeroValue9
 i9:=by kernel_rfl
 t20:=underlying20
 a20:=isAgg20
 z20:=sizeOf20
 v20:=zeroValue20
 i20:=by kernel_rfl
 t22:=underlying110
 a22:=isAgg110
 z22:=sizeOf110
 v22:=zeroValue110
 i22:=by kernel_rfl
 t24:=underlying36
 a24:=isAgg36
 z24:=sizeOf36
 v24:=zeroValue36
 i24:=by kernel_rfl
 t34:=underlying210
 a34:=isAgg210
 z34:=sizeOf210
 v34:=zeroValue210
 i34:=by kernel_rfl
 c34:=by kernel_rfl
 t36:=underlying126
 a36:=isAgg126
 z36:=sizeOf126
 v36:=zeroValue126
 i36:=by kernel_rfl
 t37:=underlying30
 a37:=isAgg30
 z37:=sizeOf30
 v37:=zeroValue30
 i37:=by kernel_rfl
 t39:=underlying213
 a39:=isAgg213
 z39:=sizeOf213
 v39:=zeroValue213
 i39:=by kernel_rfl
 t44:=underlying252
 a44:=isAgg252
 z44:=sizeOf252
 v44:=zeroValue252
 i44:=by kernel_rfl
 t47:=underlying78
 a47:=isAgg78
 z47:=sizeOf78
 v47:=zeroValue78
 i47:=by kernel_rfl
 t48:=underlying283
 a48:=isAgg283
 z48:=sizeOf283
 v48:=zeroValue283
 i48:=by kernel_rfl
 t50:=underlying285
 a50:=isAgg285
 z50:=sizeOf285
 v50:=zeroValue285
 i50:=by kernel_rfl
 t52:=underlying182
 a52:=isAgg182
 z52:=sizeOf182
 v52:=zeroValue182
 i52:=by kernel_rfl
 t55:=underlying185
 a55:=isAgg185
 z55:=sizeOf185
 v55:=zeroValue185
 i55:=by kernel_rfl
 t59:=underlying244
 a59:=isAgg244
 z59:=sizeOf244
 v59:=zeroValue244
 i59:=by kernel_rfl
 t60:=underlying177
 a60:=isAgg177
 z60:=sizeOf177
 v60:=zeroValue177
 i60:=by kernel_rfl
 t61:=underlying245
 a61:=isAgg245
 z61:=sizeOf245
 t65:=underlying304
 a65:=isAgg304
 z65:=sizeOf304
 v65:=zeroValue304
 i65:=by kernel_rfl
 t66:=underlying305
 a66:=isAgg305
 z66:=sizeOf305
 v66:=zeroValue305
 i66:=by kernel_rfl
 t67:=underlying39
 a67:=isAgg39
 z67:=sizeOf39
 v67:=zeroValue39
 i67:=by kernel_rfl
 g0:=by kernel_rfl
 m0:=by kernel_rfl
 g1:=by kernel_rfl
 m1:=by kernel_rfl
 g2:=by kernel_rfl
 m2:=by kernel_rfl
 g3:=by kernel_rfl
 m3:=by kernel_rfl
 g4:=by kernel_rfl
 m4:=by kernel_rfl }
def B0E:Go.Shelf.Ren:=⟨λ| 19=>178 | n=>n,λ| 5=>5 | n=>n,λn=>n⟩
theorem B8y:Go.Proofs.LaysPu.n19 prog B0E:={
 mixed:=by kernel_rfl
 f19:=func178.trans (congrArg some (by kernel_rfl))
 t5:=underlying5
 a5:=isAgg5
 z5:=sizeOf5
 v5:=zeroValue5
 i5:=by kernel_rfl }
def B0G:Go.Shelf.Ren:=⟨λ| 137=>170 | 217=>66 | 266=>100 | n=>n,λ| 3=>3 | 5=>5 | 9=>9 | n=>n,λn=>n⟩
theorem B80:Go.Proofs.Lays.n137 prog B0G:={
 mixed:=by kernel_rfl
 f137:=func170.trans (congrArg some (by kernel_rfl))
 f217:=func66.trans (congrArg some (by kernel_rfl))
 f266:=func100.trans (congrArg some (by kernel_rfl))
 t3:=underlying3
 a3:=isAgg3
 z3:=sizeOf3
 v3:=zeroValue3
 t5:=underlying5
 a5:=isAgg5
 z5:=sizeOf5
 v5:=zeroValue5
 t9:=underlying9
 a9:=isAgg9
 z9:=sizeOf9
 v9:=zeroValue9 }
theorem A9n(s:B_)(c:Int)(w:W_):Calls prog 170 #[.string s,.int .u8 c] w (λe w'=>e=.returned (.int .i64 (Lib.indexByte s.data.toList c.toNat.toUInt8))/\w'=w):=Any.strings_IndexByte B80 s c w
end Go.Proofs.YthhcpbfgoofppaaGreatDoor
namespace Wf
def Q3(s:B_):Int×Nat×Option Rx :=
 if 200<s.size then (3,0,none) else match W9 s.data.toList 0 with
 | .bad k=>(5,k,none)
 | .ok t j=>if j=s.size then (if (A0 t).length<=60 then (0,0,some t) else (3,0,none)) else (5,j,none)
theorem A4U{s:B_}:(Q3 s).1=0↔∃t,(Q3 s).2.2=some t:=by
 unfold Q3
 split
 .simp
 .split
  .simp
  .split
   .split <;> simp
   .simp
theorem T5{s:B_}{t:Rx}(h:(Q3 s).2.2=some t):s.size<=200/\W9 s.data.toList 0=.ok t s.size/\(A0 t).length<=60/\okT t/\Q3 s=(0,0,some t):=by
 have d:s.data.toList.length=s.size:=by simp
 unfold Q3 at h ⊢
 split at h
 .cases h
 .rename_i f
  rw[if_neg f];cases hr:W9 s.data.toList 0 with
  | bad k=>rw[hr] at h;cases h
  | ok u j =>
    rw[hr] at h;dsimp only at h ⊢
    split at h
    .rename_i b
     split at h
     .rename_i c
      cases h;obtain⟨_,_,a,_⟩:=(M6 (s:=s.data.toList) _ 0 (lr_ _) (Nat.zero_le _)).2.2 _ _ hr;exact⟨by omega,by rw[b],c,a,by rw[if_pos b,if_pos c]⟩
     .cases h
    .cases h
structure Mb where
 id:Nat
 text:B_
 t:Rx
structure SS where
 ms:List Mb
 last:Nat
 on:Bool
 tried:Nat
def SS.zero:SS:=⟨[],0,false,0⟩
def SS.added(m:SS)(s:B_):Nat×Nat×Int :=
 if (Q3 s).1≠0 then (0,(Q3 s).2.1,(Q3 s).1) else if m.ms.length<12 then (m.last+1,0,0) else (0,0,3)
def SS.add(m:SS)(s:B_):SS :=
 match (Q3 s).2.2 with
 | none=>m
 | some t=>if m.ms.length<12 then { m with ms:=m.ms++[⟨m.last+1,s,t⟩],last:=m.last+1 } else m
def SS.place(m:SS)(a:Int):Option Nat:=m.ms.findIdx? λx=>decide ((x.id:Int)=a)
def SS.removed(m:SS)(a:Int):Int:=match m.place a with | none=>4 | some _=>0
def SS.remove(m:SS)(a:Int):SS:=match m.place a with | none=>m | some k=>{ m with ms:=m.ms.eraseIdx k }
def r7(n s:List U_):Bool:=(List.range (s.length+1)).any λi=>n.isPrefixOf (s.drop i)
def SS.tries(m:SS)(s:List U_):List Mb:=m.ms.filter λx=>!m.on || r7 (S0 x.t).1 s
noncomputable def r5(s:List U_)(x:Mb):List (Nat×Nat×Nat):=(Y0 s x.t 0).map λp=>(x.id,p.1,p.2)
noncomputable def SS.hits(m:SS)(s:List U_):List (Nat×Nat×Nat):=m.ms.flatMap (r5 s)
def SS.scan(m:SS)(s:List U_):SS:=if s.length<=400 then { m with tried:=(m.tries s).length } else m
theorem A23{n s:List U_}:r7 n s=true↔∃p q,s=p++n++q:=by
 unfold r7;rw[List.any_eq_true];constructor
 .rintro⟨i,b,h⟩
  obtain⟨q,a⟩:=List.isPrefixOf_iff_prefix.1 h;exact⟨s.take i,q,by rw[List.append_assoc,a,List.take_append_drop]⟩
 .rintro⟨p,q,rfl⟩
  refine⟨p.length,by simp;omega,List.isPrefixOf_iff_prefix.2 ⟨q,?_⟩⟩;rw[List.append_assoc,List.drop_left]
theorem B2s{s:List U_}{t:Rx}(h:r7 (S0 t).1 s=false):Y0 s t 0=[]:=by
 have b:O8 s t 0=none:=by
  rw[B0h];intro i j c f b;obtain⟨⟨p,q,a⟩,_⟩:=B5R s t i j b c
  have:r7 (S0 t).1 s=true:=A23.2 ⟨s.take i++p,q++s.drop (max i j),by
   have d:=(s7 s t i j b c).1;rw[Nat.max_eq_right d];unfold sub at a
   have e:s=s.take i++((s.drop i).take (j - i)++s.drop j):=by
    conv=>lhs;rw[←List.take_append_drop i s]
    congr 1
    conv=>lhs;rw[←List.take_append_drop (j - i) (s.drop i)]
    rw[List.drop_drop,Nat.add_sub_cancel' d]
   conv=>lhs;rw[e,a]
   simp⟩
  rw[this] at h;cases h
 exact A0S b
structure SS.ok (m:SS):Prop where
 len:m.ms.length<=12
 up:m.ms.Pairwise λx y=>x.id<y.id
 pos:∀x∈m.ms,1<=x.id/\x.id<=m.last
 read:∀x∈m.ms,(Q3 x.text).2.2=some x.t
theorem SS.ok_zero:SS.zero.ok:=⟨by simp[SS.zero],by simp[SS.zero],λx h=>(by cases h),λx h=>(by cases h)⟩
theorem SS.ok.add{m:SS}(h:m.ok)(s:B_):(m.add s).ok:=by
 unfold SS.add
 split
 .exact h
 .rename_i t c
  split
  .rename_i d
   refine⟨by simp;omega,?_,?_,?_⟩
   .rw[List.pairwise_append]
    refine⟨h.up,by simp,λx a y b=>?_⟩;rw[List.mem_singleton.1 b];have:=(h.pos x a).2;show x.id<m.last+1;omega
   .intro x a
    rcases List.mem_append.1 a with a|a
    .have:=h.pos x a
     exact⟨this.1,by show x.id<=m.last+1;omega⟩
    .rw[List.mem_singleton.1 a]
     exact⟨by show 1<=m.last+1;omega,lr_ _⟩
   .intro x a
    rcases List.mem_append.1 a with a|a
    .exact h.read x a
    .rw[List.mem_singleton.1 a];exact c
  .exact h
theorem SS.ok.remove{m:SS}(h:m.ok)(c:Int):(m.remove c).ok:=by
 unfold SS.remove
 split
 .exact h
 .rename_i k _
  have a:=List.eraseIdx_sublist m.ms k;exact⟨Nat.le_trans a.length_le h.len,h.up.sublist a,λx b=>h.pos x (a.subset b),λx b=>h.read x (a.subset b)⟩
theorem SS.ok.tried{m:SS}(h:m.ok)(on:Bool)(n:Nat):SS.ok { m with on:=on,tried:=n }:=⟨h.len,h.up,h.pos,h.read⟩
theorem SS.ok.scan{m:SS}(h:m.ok)(s:List U_):(m.scan s).ok:=by
 unfold SS.scan
 split
 .exact⟨h.len,h.up,h.pos,h.read⟩
 .exact h
theorem SS.last_add(m:SS)(s:B_):m.last<=(m.add s).last/\(m.add s).last<=m.last+1:=by
 unfold SS.add
 split
 .omega
 .split
  .show m.last<=m.last+1/\m.last+1<=m.last+1;omega
  .omega
theorem SS.last_remove(m:SS)(a:Int):(m.remove a).last=m.last:=by unfold SS.remove;split <;> rfl
theorem SS.last_scan(m:SS)(s:List U_):(m.scan s).last=m.last:=by unfold SS.scan;split <;> rfl
theorem B4G(m:SS)(s:List U_):(m.tries s).length<=m.ms.length:=List.length_filter_le _ _
