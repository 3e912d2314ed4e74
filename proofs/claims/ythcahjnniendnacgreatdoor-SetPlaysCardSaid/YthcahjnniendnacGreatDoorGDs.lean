/-
  DsA, DsB, DsC.
-/
import Derived.Test.YthcahjnniendnacGreatDoorGRdrD
import Derived.Test.YthcahjnniendnacGreatDoorGSetC
import Derived.Test.YthcahjnniendnacGreatDoorGSetF
import Derived.Test.YthcahjnniendnacGreatDoorGSetI
set_option linter.unusedVariables false
set_option linter.unusedSimpArgs false
set_option maxRecDepth 100000
set_option maxHeartbeats 8000000
open Go.Lib (hid)
namespace Go.Proofs.YthcahjnniendnacGreatDoor.setW
open Go.RowKit Wf
set_option linter.unusedVariables false
structure DK (B b : Nat) (w w' : World) : Prop where
 bel : Below B w w'
 keep : ∀ (i : Nat) (cs : Array Value) (t : TypeId),i ≠ b → t ≠ 60 → t ≠ 22 → Blk w i t cs → Blk w' i t cs
theorem blk_ty {w w' : World} {base n size i : Nat} {e t : TypeId} {v : Value} {xs : List Value} {cs : Array Value} (hb : Blk w i t cs) (h : w.ownsRow base e size v n xs) (hg : w.grownBy w' v.ownBlock) (ht : t ≠ e) : Blk w' i t cs :=
 (hg.block i (Blk.lt hb) (fun eq => own_not h hb ht eq.symm)).trans hb
theorem own_ty {w w' : World} {b1 b2 n1 n2 s1 s2 : Nat} {e1 e2 : TypeId} {v1 v2 : Value} {x1 x2 : List Value} (h2 : w.ownsRow b2 e2 s2 v2 n2 x2) (h1 : w.ownsRow b1 e1 s1 v1 n1 x1) (hg : w.grownBy w' v1.ownBlock) (hne : e2 ≠ e1) : w'.ownsRow b2 e2 s2 v2 n2 x2:=by
 refine ⟨h2.1,?_⟩
 rcases h2.2 with hn | ⟨g,cap,cur,hv,hbg,hgg,rest⟩
 ·exact .inl hn
 ·exact .inr ⟨g,cap,cur,hv,hbg,blk_ty (show Blk w g e2 cur from hgg) h1 hg hne,rest⟩
theorem row_ty {w w' : World} {base n size lo : Nat} {e : TypeId} {v u : Value} {xs : List Value} {l : List Nd} (hr : RowIn w lo u l) (h : w.ownsRow base e size v n xs) (hg : w.grownBy w' v.ownBlock) (hne : e ≠ 41) : RowIn w' lo u l:=by
 obtain ⟨g,cap,cur,hv,h1,h2,h3,h4,h5,h6⟩:=hr
 exact ⟨g,cap,cur,hv,h1,h2,h3,h4,blk_ty h5 h hg (Ne.symm hne),h6⟩
theorem row_set {w : World} {lo b : Nat} {t : TypeId} {u x : Value} {o : Nat} {cs : Array Value} {l : List Nd} (hr : RowIn w lo u l) (hb : Blk w b t cs) (ht : t ≠ 41) : RowIn (w.setCell ⟨b,o,none⟩ x) lo u l:=by
 obtain ⟨g,cap,cur,hv,h1,h2,h3,h4,h5,h6⟩:=hr
 refine ⟨g,cap,cur,hv,h1,h2,h3,h4,h5.far (p:=⟨b,o,none⟩) (fun e => ?_) x,h6⟩
 have e' : g = b:=e
 subst e'
 have hc : some (Obj.cells cs t (0,0)) = some (Obj.cells cur 41 (0,0)):=(show w.heap[g]? = _ from hb).symm.trans h5
 injection hc with hc
 injection hc with _ hc _
 exact ht hc
section
variable {B b : Nat} {w w1 w2 w' : World}
theorem DK.refl (B b : Nat) (w : World) : DK B b w w:=⟨Below.refl _ _,fun _ _ _ _ _ _ h => h⟩
theorem DK.trans (h : DK B b w w1) (k : DK B b w1 w2) : DK B b w w2:=⟨h.bel.trans k.bel,fun i cs t h1 h2 h3 h4 => k.keep i cs t h1 h2 h3 (h.keep i cs t h1 h2 h3 h4)⟩
theorem DK.of_below (hB : B ≤ w.heap.size) (h : Below w.heap.size w w') : DK B b w w':=⟨h.mono hB,fun _ _ _ _ _ _ hb => hb.kept h⟩
theorem DK.set (hB : B ≤ b) (w : World) (o : Nat) (u : Value) : DK B b w (w.setCell ⟨b,o,none⟩ u):=⟨(Below.refl _ _).setCell (p:=⟨b,o,none⟩) hB u,fun i cs t h1 _ _ h3 => h3.far (p:=⟨b,o,none⟩) h1 u⟩
theorem DK.grown {n size : Nat} {e : TypeId} {v : Value} {xs : List Value} (hB : B ≤ w.heap.size) (he : e = 60 ∨ e = 22) (ho : w.ownsRow B e size v n xs) (hg : w.grownBy w' v.ownBlock) : DK B b w w':=by
 refine ⟨⟨hg.os,hg.tape,hg.output,hg.size,fun i hi => hg.block i (by omega) fun e => by have:=(ho.lt i e.symm).1;omega⟩,fun i cs t _ h1 h2 hb => ?_⟩
 refine blk_ty hb ho hg (fun e' => ?_)
 rcases he with rfl | rfl
 ·exact h1 e'
 ·exact h2 e'
end
theorem own_dk {B b base n size : Nat} {e : TypeId} {w w' : World} {v : Value} {xs : List Value} (h : w.ownsRow base e size v n xs) (hk : DK B b w w') (he : e ≠ 60) (he2 : e ≠ 22) (hb : v.ownBlock ≠ some b) : w'.ownsRow base e size v n xs:=by
 refine ⟨h.1,?_⟩
 rcases h.2 with hn | ⟨g,cap,cur,rfl,hbg,hgg,rest⟩
 ·exact .inl hn
 ·exact .inr ⟨g,cap,cur,rfl,hbg,hk.keep g cur e (fun e => hb (by rw [e];rfl)) he he2 hgg,rest⟩
theorem SetAt.dk {B b B' b' : Nat} {m : SS} {ml : List Mr} {A : Value} {W W' : World} {cs : Array Value} (h : SetAt B b m ml A W) (hk : DK B' b' W W') (hb : Blk W b' 71 cs) : SetAt B b m ml A W':=by
 have hne : b ≠ b':=fun e => by
  subst e
  have hc:=h.blk.symm.trans hb
  injection hc with hc
  injection hc with _ hc _
  exact absurd hc (by decide)
 exact ⟨h.hB,h.ms,hk.keep b _ _ hne (by decide) (by decide) h.blk,own_dk h.own hk (by decide) (by decide) (own_not h.own hb (by decide)),fun q hq => ⟨own_dk (h.mem q hq).1 hk (by decide) (by decide) (own_not (h.mem q hq).1 hb (by decide)),(h.mem q hq).2⟩,h.ok,h.lastb⟩
structure DAt (B b : Nat) (m : SS) (AI AP : Value) (vs : List Value) (W : World) : Prop where
 hB : B ≤ b
 blk : Blk W b 71 #[AI,AP,.int .i64 (m.last : Int),.bool m.on,.int .i64 (m.tried : Int)]
 its : W.ownsRow B 60 2 AI m.ms.length (m.ms.flatMap itCells)
 pts : W.ownsRow B 22 1 AP m.ms.length vs
 rows : RowsAt W B vs (m.ms.map fun x => flat x.t)
 ok : m.ok
 lastb : m.last ≤ 1000000
section
variable {B b : Nat} {m : SS} {AI AP : Value} {vs : List Value} {W W' : World}
theorem DAt.lt (h : DAt B b m AI AP vs W) : b < W.heap.size:=h.blk.lt
theorem DAt.hBw (h : DAt B b m AI AP vs W) : B ≤ W.heap.size:=by have:=h.lt;have:=h.hB;omega
theorem DAt.below (h : DAt B b m AI AP vs W) (hb : Below W.heap.size W W') : DAt B b m AI AP vs W' :=
 ⟨h.hB,h.blk.kept hb,own_low h.its hb,own_low h.pts hb,h.rows.keep fun u l hr => hr.below hb,h.ok,h.lastb⟩
theorem DAt.put (h : DAt B b m AI AP vs W) (m' : SS) (hms : m'.ms = m.ms) (hok : m'.ok) (hl : m'.last ≤ 1000000) (o : Nat) (u : Value) (hc : (#[AI,AP,.int .i64 (m.last : Int),.bool m.on,.int .i64 (m.tried : Int)] : Array Value).setIfInBounds o u = #[AI,AP,.int .i64 (m'.last : Int),.bool m'.on,.int .i64 (m'.tried : Int)]) : DAt B b m' AI AP vs (W.setCell ⟨b,o,none⟩ u) :=
 ⟨h.hB,by have:=h.blk.set_ o u;rw [hc] at this;exact this,by rw [hms];exact h.its.kept (grown_setS W b o u) (.inr (own_not h.its h.blk (by decide))),by rw [hms];exact h.pts.kept (grown_setS W b o u) (.inr (own_not h.pts h.blk (by decide))),by rw [hms];exact h.rows.keep fun u l hr => row_set hr h.blk (by decide),hok,hl⟩
theorem DAt.sk {B' b' : Nat} {cs : Array Value} (h : DAt B b m AI AP vs W) (hk : SK B' b' W W') (hb : Blk W b' 108 cs) : DAt B b m AI AP vs W':=by
 have hne : b ≠ b':=fun e => by
  subst e
  have hc:=h.blk.symm.trans hb
  injection hc with hc
  injection hc with _ hc _
  exact absurd hc (by decide)
 refine ⟨h.hB,hk.keep b _ _ hne (by decide) h.blk,own_sk h.its hk (by decide) (own_not h.its hb (by decide)),own_sk h.pts hk (by decide) (own_not h.pts hb (by decide)),h.rows.keep fun u l hr => ?_,h.ok,h.lastb⟩
 obtain ⟨g,cap,cur,hv,h1,h2,h3,h4,h5,h6⟩:=hr
 refine ⟨g,cap,cur,hv,h1,h2,h3,h4,hk.keep g cur _ (fun e => ?_) (by decide) h5,h6⟩
 subst e
 have hc:=h5.symm.trans hb
 injection hc with hc
 injection hc with _ hc _
 exact absurd hc (by decide)
end
theorem place_noneD {m : SS} {x : Int} (h : ∀ (k : Nat) (q : Mb),m.ms[k]? = some q → ((q.id : Int) ≠ x)) : m.place x = none:=by
 unfold SS.place
 rw [List.findIdx?_eq_none_iff]
 intro q hq
 obtain ⟨k,hk,e⟩:=List.getElem_of_mem hq
 have:=h k q (by rw [List.getElem?_eq_getElem hk,e])
 simpa using this
theorem place_someD {m : SS} {x : Int} {k : Nat} {q : Mb} (hk : m.ms[k]? = some q) (hq : (q.id : Int) = x) (h : ∀ (j : Nat) (q : Mb),j < k → m.ms[j]? = some q → ((q.id : Int) ≠ x)) : m.place x = some k:=by
 unfold SS.place
 rw [List.findIdx?_eq_some_iff_getElem]
 obtain ⟨hlt,he⟩:=List.getElem?_eq_some_iff.1 hk
 refine ⟨hlt,?_,fun j hj => ?_⟩
 ·simp [he,hq]
 ·have:=h j (m.ms[j]'(by omega)) hj (List.getElem?_eq_getElem (by omega))
  simpa using this
theorem RPlace_c (B b : Nat) (m : SS) (AI AP : Value) (vs : List Value) (x : Int) (w : World) (h : DAt B b m AI AP vs w) :
 Calls Tryz.prog 47 #[.pointer (some ⟨b,0,none⟩),.int .i64 x] w (fun e w' => e = .returned (.int .i64 (numP (m.place x))) ∧ w = w'):=by
 obtain ⟨A,cap,rfl,hcap,hcap2,hmem⟩:=it_open (Rd.of_own h.its)
 have c0 : w.cell? ⟨b,0,none⟩ = some (.slice A m.ms.length cap):=h.blk.cell 0
 have hlen:=h.ok.len
 have HM:=hid hmem
 have HPN:=hid fun (hh : ∀ (k : Nat) (q : Mb),m.ms[k]? = some q → ((q.id : Int) ≠ x)) => place_noneD hh
 have HPS:=hid fun (k : Nat) (q : Mb) (hk : m.ms[k]? = some q) (hq : (q.id : Int) = x) (hh : ∀ (j : Nat) (q : Mb),j < k → m.ms[j]? = some q → ((q.id : Int) ≠ x)) => place_someD hk hq hh
 obtain ⟨R,hR⟩ : ∃ R,R = numP (m.place x):=⟨_,rfl⟩
 rw [← hR]
 have HR:=hid hR
 generalize m.ms = ms at *
 clear hR h hmem
 go_enter Tryz.func47,Tryz.ntmps47
 go_wp2
 go_loopw [5] (fun v5 wr => ∃ k : Nat,k ≤ ms.length ∧ v5 = .int .i64 (k : Int) ∧ Hid (∀ (j : Nat) (q : Mb),j < k → ms[j]? = some q → ((q.id : Int) ≠ x)) ∧ Hid (w = wr)) (fun v _ => ms.length - (intOf v).toNat)
 case atStart => exact ⟨0,by omega,rfl,hid (fun j q hj => by omega),hid (by first | rfl | trivial)⟩
 case round =>
  obtain ⟨k,hk,rfl,HN,HW⟩:=hrel
  have hw:=HW.out
  subst hw
  by_cases hlt : k < ms.length
  ·have d : decide (k < ms.length) = true:=by simpa using hlt
   have d2 : decide ((k : Int) < (ms.length : Int)) = true:=by simp;omega
   have hi0 : (0 : Int) ≤ (k : Int):=by omega
   have hi1 : (k : Int) < (ms.length : Int):=by omega
   obtain ⟨g,o,rfl,hg,hcs⟩:=HM.out (by omega)
   obtain ⟨q,hq⟩ : ∃ q,ms[k]? = some q:=⟨_,List.getElem?_eq_getElem hlt⟩
   obtain ⟨g0,g1⟩:=hcs w (fun _ => rfl) k q hq
   have HQ:=hid hq
   clear hq hcs
   by_cases he : (q.id : Int) = x
   ·have de : ((q.id : Int) == x) = true:=by simpa using he
    have HE:=hid he
    clear he
    go_wp2
    go_ret
    exact ⟨by rw [HR.out,HPS.out k q HQ.out HE.out HN.out];rfl,by first | rfl | trivial⟩
   ·have de : ((q.id : Int) == x) = false:=by simpa using he
    have HE:=hid he
    clear he
    go_wp2
    go_roundw
    case rel => exact ⟨k + 1,by omega,by go_num,hid (fun j q' hj hq' => by
     by_cases ej : j = k
     ·subst ej;rw [HQ.out] at hq';cases hq';exact HE.out
     ·exact HN.out j q' (by omega) hq'),hid (by first | rfl | trivial)⟩
    case measure => simp [intOf];omega
  ·obtain rfl : k = ms.length:=by omega
   have d : decide (ms.length < ms.length) = false:=by simp
   have d2 : decide ((ms.length : Int) < (ms.length : Int)) = false:=by simp
   go_wp2
   go_ret
   exact ⟨by rw [HR.out,HPN.out fun k q hq => HN.out k q (List.getElem?_eq_some_iff.1 hq).1 hq];rfl,by first | rfl | trivial⟩
end Go.Proofs.YthcahjnniendnacGreatDoor.setW
namespace Wf
def keepE {α : Type} (l : List α) (k i : Nat) : List α:=(l.take i).eraseIdx k
theorem take_sn {α : Type} {l : List α} {k : Nat} {x : α} (h : l[k]? = some x) : l.take (k + 1) = l.take k ++ [x]:=by
 rw [List.take_add_one,h];rfl
theorem map_erase {α β : Type} (f : α → β) : ∀ (l : List α) (k : Nat),(l.eraseIdx k).map f = (l.map f).eraseIdx k
 | [],k => by simp
 | a :: l,0 => by simp
 | a :: l,k + 1 => by simp [map_erase f l k]
theorem keepE_zero {α : Type} (l : List α) (k : Nat) : keepE l k 0 = []:=by unfold keepE;simp
theorem keepE_all {α : Type} (l : List α) (k : Nat) : keepE l k l.length = l.eraseIdx k:=by unfold keepE;rw [List.take_length]
theorem keepE_at {α : Type} {l : List α} {k : Nat} {x : α} (h : l[k]? = some x) : keepE l k (k + 1) = keepE l k k:=by
 unfold keepE
 rw [take_sn h]
 have hk:=(List.getElem?_eq_some_iff.1 h).1
 have hl : (l.take k).length = k:=by simp;omega
 rw [List.eraseIdx_append_of_length_le (by omega),hl,Nat.sub_self,List.eraseIdx_of_length_le (l:=l.take k) (by omega)]
 simp
theorem keepE_next {α : Type} {l : List α} {k i : Nat} {x : α} (h : l[i]? = some x) (hne : i ≠ k) : keepE l k (i + 1) = keepE l k i ++ [x]:=by
 unfold keepE
 rw [take_sn h]
 have hi:=(List.getElem?_eq_some_iff.1 h).1
 have hl : (l.take i).length = i:=by simp;omega
 rcases Nat.lt_or_ge k i with hki | hki
 ·rw [List.eraseIdx_append_of_lt_length (by omega)]
 ·rw [List.eraseIdx_append_of_length_le (by omega),hl,List.eraseIdx_of_length_le (l:=l.take i) (by omega),List.eraseIdx_of_length_le (by simp;omega)]
theorem keepE_len {α : Type} (l : List α) (k i : Nat) : (keepE l k i).length ≤ i:=by
 unfold keepE
 rw [List.length_eraseIdx]
 split <;> simp <;> omega
theorem keepE_map {α β : Type} (f : α → β) (l : List α) (k i : Nat) : (keepE l k i).map f = keepE (l.map f) k i:=by
 unfold keepE
 rw [map_erase,List.map_take]
end Wf
namespace Go.Proofs.YthcahjnniendnacGreatDoor.setW
open Go.RowKit Wf
set_option linter.unusedVariables false
theorem rowsKeep {w : World} {lo : Nat} {vs : List Value} {rows : List (List Nd)} (h : RowsAt w lo vs rows) (k i : Nat) : i ≤ vs.length → RowsAt w lo (keepE vs k i) (keepE rows k i):=by
 induction i with
 | zero => intro _;rw [keepE_zero,keepE_zero];exact RowsAt.nil _ _
 | succ i ih =>
   intro hi
   obtain ⟨u,hu⟩ : ∃ u,vs[i]? = some u:=⟨_,List.getElem?_eq_getElem (by omega)⟩
   obtain ⟨l,hl⟩ : ∃ l,rows[i]? = some l:=⟨_,List.getElem?_eq_getElem (by have:=h.1;omega)⟩
   by_cases e : i = k
   ·subst e
    rw [keepE_at hu,keepE_at hl]
    exact ih (by omega)
   ·rw [keepE_next hu e,keepE_next hl e]
    exact (ih (by omega)).snoc (h.2 i u l hu hl)
theorem own_baseD {w : World} {base base' n size : Nat} {e : TypeId} {v : Value} {xs : List Value} (h : w.ownsRow base e size v n xs) (hb : base' ≤ base) : w.ownsRow base' e size v n xs:=by
 refine ⟨h.1,?_⟩
 rcases h.2 with hn | ⟨g,cap,cur,hv,h1,rest⟩
 ·exact .inl hn
 ·exact .inr ⟨g,cap,cur,hv,Nat.le_trans hb h1,rest⟩
theorem itCells_snoc (l : List Mb) (q : Mb) : (l ++ [q]).flatMap itCells = l.flatMap itCells ++ itCells q:=by simp
theorem newTwo (W : World) (t : TypeId) (x y : Value) (g : Nat) (hg : g = W.heap.size) : ∀ (j : Nat) (u : Value),[x,y][j]? = some u → (W.alloc (.cells #[x,y] t)).cell? ((⟨g,0,none⟩ : Addr).add j) = some u:=by
 intro j u hu
 subst hg
 rw [add_mk,Nat.zero_add,(Blk.new W t #[x,y]).cell]
 simpa using hu
def DTo (ret : Value) (B b : Nat) (m : SS) (w : World) (e : Ending) (w' : World) : Prop:=e = .returned ret ∧ ∃ (AI AP : Value) (vs : List Value),DAt B b m AI AP vs w' ∧ DK B b w w'
theorem RRemove_c (B b : Nat) (m : SS) (AI AP : Value) (vs : List Value) (x : Int) (w : World) (h : DAt B b m AI AP vs w) :
 Calls Tryz.prog 26 #[.pointer (some ⟨b,0,none⟩),.int .i64 x] w (DTo (.int .i64 (m.removed x)) B b (m.remove x) w):=by
 have HP:=hid (RPlace_c B b m AI AP vs x w h)
 unfold DTo SS.removed SS.remove
 cases hp : m.place x with
 | none =>
   rw [hp] at HP
   have H:=hid h
   clear h hp
   go_enter Tryz.func26,Tryz.ntmps26
   go_wp2_with fail
   refine HP.out.mono ?_
   rintro e w1 ⟨rfl,rfl⟩
   have d : decide ((numP none : Int) < 0) = true:=by decide
   have d' : numP none = -1:=rfl
   go_wp2_with fail
   go_ret
   exact ⟨rfl,AI,AP,vs,H.out,DK.refl _ _ _⟩
 | some kk =>
   rw [hp] at HP
   have hkk:=place_lt hp
   obtain ⟨i0,hi0,hz0,hz1,hz2⟩:=info_parts info_item
   obtain ⟨r0',hri0,hrz0,hrz1,hrz2⟩:=info_parts info_row
   have hlen:=h.ok.len
   have hok2 : (m.remove x).ok:=h.ok.remove x
   unfold SS.remove at hok2
   rw [hp] at hok2
   have HOK:=hid hok2
   have hlb:=h.lastb
   have hrows:=h.rows
   have hvl : vs.length = m.ms.length:=by have:=hrows.1;rwa [List.length_map] at this
   obtain ⟨A,cap,rfl,hcap,hcap2,hmem⟩:=it_open (Rd.of_own h.its)
   obtain ⟨A2,cap2,rfl,hcp,hcp2,hmem2⟩:=own_form0 h.pts
   have HM:=hid hmem
   have HM2:=hid hmem2
   have HRW:=hid hrows
   have H:=hid h
   have HBB:=h.hB
   have hBw:=h.hBw
   have hlt:=h.lt
   clear hp hmem hmem2 hrows hok2 h
   obtain ⟨ms,hms⟩ : ∃ ms,ms = m.ms:=⟨_,rfl⟩
   have HMS:=hid hms
   rw [← hms] at HM HM2 hvl hlen hkk hcap hcp HRW
   have c0 : w.cell? ⟨b,0,none⟩ = some (.slice A ms.length cap):=by rw [hms];exact H.out.blk.cell 0
   have c1 : w.cell? ⟨b,1,none⟩ = some (.slice A2 ms.length cap2):=by rw [hms];exact H.out.blk.cell 1
   have HC : Hid (∀ W,Below w.heap.size w W → W.cell? ⟨b,0,none⟩ = some (.slice A ms.length cap) ∧ W.cell? ⟨b,1,none⟩ = some (.slice A2 ms.length cap2)):=hid fun W hW => ⟨(hW.cell (p:=⟨b,0,none⟩) hlt).trans c0,(hW.cell (p:=⟨b,1,none⟩) hlt).trans c1⟩
   have hHIT : Hid (w.ownsRow B 60 2 (.slice A m.ms.length cap) m.ms.length (m.ms.flatMap itCells)):=hid H.out.its
   clear hms
   rw [show numP (some kk) = (kk : Int) from rfl] at HP
   go_enter Tryz.func26,Tryz.ntmps26
   go_wp2_with fail
   refine HP.out.mono ?_
   rintro e w1 ⟨rfl,hw1⟩
   subst hw1
   have d : decide ((kk : Int) < 0) = false:=by simp
   go_wp2_with fail
   go_loopw [6,7,8] (fun v6 v7 v8 wr => ∃ k : Nat,k ≤ ms.length ∧ v8 = .int .i64 (k : Int) ∧ Hid (wr.ownsRow w.heap.size 60 2 v6 (keepE ms kk k).length ((keepE ms kk k).flatMap itCells)) ∧ Hid (wr.ownsRow w.heap.size 22 1 v7 (keepE ms kk k).length (keepE vs kk k)) ∧ Hid (Below w.heap.size w wr)) (fun _ _ v _ => ms.length - (intOf v).toNat)
   case atStart => exact ⟨0,by omega,rfl,hid (by rw [keepE_zero];exact World.ownsRow_nil _ _ _ _),hid (by rw [keepE_zero,keepE_zero];exact World.ownsRow_nil _ _ _ _),hid (Below.refl _ _)⟩
   case round =>
    obtain ⟨k,hk,rfl,HO,HO2,HB⟩:=hrel
    clear c0 c1
    obtain ⟨c0,c1⟩:=HC.out wr HB.out
    have hsz:=HB.out.size
    have hkl:=keepE_len ms kk k
    by_cases hlt2 : k < ms.length
    ·have d1 : decide (k < ms.length) = true:=by simpa using hlt2
     have d2 : decide ((k : Int) < (ms.length : Int)) = true:=by simp;omega
     have hi0' : (0 : Int) ≤ (k : Int):=by omega
     have hi1 : (k : Int) < (ms.length : Int):=by omega
     obtain ⟨q,hq⟩ : ∃ q,ms[k]? = some q:=⟨_,List.getElem?_eq_getElem hlt2⟩
     obtain ⟨u,hu⟩ : ∃ u,vs[k]? = some u:=⟨_,List.getElem?_eq_getElem (by omega)⟩
     have HQ:=hid hq
     have HU:=hid hu
     clear hq hu
     by_cases he : k = kk
     ·have de : ((k : Int) != (kk : Int)) = false:=by rw [he];simp
      have HE:=hid he
      clear he
      go_wp2_with fail
      go_roundw
      case rel => exact ⟨k + 1,by omega,by go_num,hid (by have h:=HO.out;rw [← HE.out] at h ⊢;rw [keepE_at HQ.out];exact h),hid (by have h:=HO2.out;rw [← HE.out] at h ⊢;rw [keepE_at HQ.out,keepE_at HU.out];exact h),HB⟩
      case measure => simp [intOf];omega
     ·have de : ((k : Int) != (kk : Int)) = true:=by simp;omega
      have HE:=hid he
      clear he
      obtain ⟨g,o,rfl,hg,hcs⟩:=HM.out (by omega)
      obtain ⟨g2,rfl,hg2,hcs2⟩:=HM2.out (by omega)
      obtain ⟨g0,g1⟩:=hcs wr (fun o => HB.out.cell (p:=⟨g,o,none⟩) hg) k q HQ.out
      have g3:=hcs2 wr (HB.out.block g2 hg2) k u HU.out
      have hg2r : g2 < wr.heap.size:=by omega
      have HG3 : Hid (∀ W,Below w.heap.size w W → W.cell? ⟨g2,k,none⟩ = some u):=hid fun W hW => hcs2 W (hW.block g2 hg2) k u HU.out
      obtain ⟨l,hl⟩ : ∃ l,(ms.map fun x => flat x.t)[k]? = some l:=⟨_,List.getElem?_eq_getElem (by simpa using hlt2)⟩
      obtain ⟨gu,capu,rfl,_⟩:=(HRW.out.2 k u l HU.out hl).form
      clear hcs hcs2 hl
      obtain ⟨N,hN⟩ : ∃ N,N = (keepE ms kk k).length:=⟨_,rfl⟩
      rw [← hN] at HO HO2 hkl
      have HN:=hid hN
      have HK1 : Hid (keepE ms kk (k + 1) = keepE ms kk k ++ [q]):=hid (keepE_next HQ.out HE.out)
      have HK2 : Hid (keepE vs kk (k + 1) = keepE vs kk k ++ [.slice (some ⟨gu,0,none⟩) l.length capu]):=hid (keepE_next HU.out HE.out)
      clear hN
      have hw3 : w.heap.size ≤ w.heap.size:=Nat.le_refl _
      go_wp2_with (first
       | (at_builtin;refine wpList_append_own _ rfl (.tmp 26) (.tmp 34) _ rfl w.heap.size 60 i0 _ 2 24 Tryz.underlying57 hi0 hz0 hz1 hz2 rfl (by omega) _ N ((keepE ms kk k).flatMap itCells) rfl (HO.out.alloc _) ⟨wr.heap.size,0,none⟩ 1 1 [.int .i64 (q.id : Int),.string q.text] rfl rfl (newTwo _ _ _ _ _ rfl) (by intro u hu;simp at hu;rcases hu with rfl | rfl <;> rfl) (by unfold maxLen;omega) (by omega) (by simp;omega) ?_;intro v3 w3 hown3 hg3 _;have hba : Below w.heap.size w (wr.alloc (.cells #[.int .i64 (q.id : Int),.string q.text] 60)):=HB.out.alloc hsz _;have hb3:=below_own hba (Nat.le_refl _) (by simp;omega) (HO.out.alloc _) hg3;have HB3:=hid hb3;have HO3:=hid hown3;have HP3:=hid (own_ty (HO2.out.alloc _) (HO.out.alloc _) hg3 (by decide));have c1':=(HC.out w3 hb3).2;have g3':=HG3.out w3 hb3;have hs3:=hb3.size;clear hown3 hg3 hba hb3)
       | (at_builtin;refine wpList_append_own _ rfl (.tmp 36) (.tmp 44) _ rfl w.heap.size 22 r0' _ 1 24 Tryz.underlying69 hri0 hrz0 hrz1 hrz2 rfl (by omega) _ N (keepE vs kk k) rfl (HP3.out.alloc _) ⟨w3.heap.size,0,none⟩ 1 1 [.slice (some ⟨gu,0,none⟩) l.length capu] rfl rfl (new_oneR _ _ _ _ rfl) (by intro u hu;simp at hu;subst hu;rfl) (by unfold maxLen;omega) (by omega) (by simp;omega) ?_;intro v4 w4 hown4 hg4 _;have hba4 : Below w.heap.size w (w3.alloc (.cells #[.slice (some ⟨gu,0,none⟩) l.length capu] 22)):=HB3.out.alloc hs3 _;have HB4:=hid (below_own hba4 (Nat.le_refl _) (by simp;omega) (HP3.out.alloc _) hg4);have HO4:=hid (own_ty (HO3.out.alloc _) (HP3.out.alloc _) hg4 (by decide));have HP4:=hid hown4;clear hown4 hg4 hba4))
      go_roundw
      case rel => exact ⟨k + 1,by omega,by go_num,hid (by rw [HK1.out,List.length_append,← HN.out,itCells_snoc];exact HO4.out),hid (by rw [HK1.out,List.length_append,← HN.out,HK2.out];exact HP4.out),HB4⟩
      case measure => simp [intOf];omega
    ·obtain rfl : k = ms.length:=by omega
     have d1 : decide (ms.length < ms.length) = false:=by simp
     have d2 : decide ((ms.length : Int) < (ms.length : Int)) = false:=by simp
     have hE1 : keepE ms kk ms.length = ms.eraseIdx kk:=keepE_all ms kk
     have hE2 : keepE vs kk ms.length = vs.eraseIdx kk:=by rw [← hvl];exact keepE_all vs kk
     rw [hE1] at HO HO2
     rw [hE2] at HO2
     obtain ⟨X,capX,rfl⟩:=items_form HO.out
     obtain ⟨Y,capY,rfl,_⟩:=own_form0 HO2.out
     have HB0:=hid (H.out.blk.kept HB.out)
     have z0 : wr.frozen? ⟨b,0,none⟩ = false:=HB0.out.frozen 0
     have z1 : wr.frozen? ⟨b,1,none⟩ = false:=HB0.out.frozen 1
     have HRK : Hid (RowsAt w B (vs.eraseIdx kk) ((ms.eraseIdx kk).map fun x => flat x.t)):=hid (by
      have:=rowsKeep HRW.out kk ms.length (by omega)
      rw [hE2,← keepE_map,hE1] at this
      exact this)
     clear hE1 hE2
     obtain ⟨N,hN⟩ : ∃ N,N = (ms.eraseIdx kk).length:=⟨_,rfl⟩
     rw [← hN] at HO HO2 ⊢
     have HN:=hid hN
     clear hN
     go_wp2_with fail
     go_ret
     have hb1:=HB0.out.set_ 0 (.slice X N capX)
     have hb2:=hb1.set_ 1 (.slice Y N capY)
     refine ⟨rfl,.slice X N capX,.slice Y N capY,vs.eraseIdx kk,⟨HBB,?_,?_,?_,?_,HOK.out,hlb⟩,((DK.of_below hBw HB.out).trans (DK.set HBB _ _ _)).trans (DK.set HBB _ _ _)⟩
     ·exact hb2
     ·show World.ownsRow _ B _ 2 _ (m.ms.eraseIdx kk).length ((m.ms.eraseIdx kk).flatMap itCells)
      rw [← HMS.out,← HN.out]
      have h1:=HO.out.kept (grown_setS wr b 0 (.slice X N capX)) (.inr (own_not HO.out HB0.out (by decide)))
      exact own_baseD (h1.kept (grown_setS _ b 1 (.slice Y N capY)) (.inr (own_not h1 hb1 (by decide)))) hBw
     ·show World.ownsRow _ B _ 1 _ (m.ms.eraseIdx kk).length _
      rw [← HMS.out,← HN.out]
      have h1:=HO2.out.kept (grown_setS wr b 0 (.slice X N capX)) (.inr (own_not HO2.out HB0.out (by decide)))
      exact own_baseD (h1.kept (grown_setS _ b 1 (.slice Y N capY)) (.inr (own_not h1 hb1 (by decide)))) hBw
     ·show RowsAt _ B _ ((m.ms.eraseIdx kk).map fun x => flat x.t)
      rw [← HMS.out]
      exact ((HRK.out.keep fun u l hr => hr.below HB.out).keep fun u l hr => row_set (o:=0) (x:=.slice X N capX) hr HB0.out (by decide)).keep fun u l hr => row_set hr hb1 (by decide)
set_option linter.unusedVariables false
def RReadsTo (s : ByteArray) (w : World) (e : Ending) (w' : World) : Prop:=Below w.heap.size w w' ∧
 ((∃ t g cap,parseE s = (0,0,some t) ∧ e = .returned (.tuple #[.slice (some ⟨g,0,none⟩) (flat t).length cap,.int .i64 0,.int .i64 0]) ∧ RowIn w' w.heap.size (.slice (some ⟨g,0,none⟩) (flat t).length cap) (flat t)) ∨
  (∃ (c : Int) (k : Nat),parseE s = (c,k,none) ∧ c ≠ 0 ∧ k ≤ 200 ∧ e = .returned (.tuple #[.slice none 0 0,.int .i64 (k : Int),.int .i64 c])))
theorem RParse_e (s : ByteArray) (w : World) (hs : s.size ≤ 9223372036854775807) : Calls Tryz.prog 12 #[.string s] w (RReadsTo s w):=by
 refine (RParse_c s w hs).mono ?_
 rintro e w' ⟨hb,⟨h1,h2⟩ | ⟨h1,t,h2,h3,h4⟩ | ⟨h1,t,g,cap,h2,h3,h4,h5⟩ | ⟨h1,k,h2,h3,h3'⟩⟩
 ·exact ⟨hb,.inr ⟨3,0,by unfold parseE;rw [if_pos h1],by decide,by omega,h2⟩⟩
 ·refine ⟨hb,.inr ⟨3,0,?_,by decide,by omega,h4⟩⟩
  unfold parseE
  rw [if_neg (by omega),h2]
  dsimp only
  rw [if_pos rfl,if_neg (by omega)]
 ·refine ⟨hb,.inl ⟨t,g,cap,?_,h4,h5⟩⟩
  unfold parseE
  rw [if_neg (by omega),h2]
  dsimp only
  rw [if_pos rfl,if_pos h3]
 ·refine ⟨hb,.inr ⟨5,k,?_,by decide,by omega,h3'⟩⟩
  unfold parseE
  rw [if_neg (by omega)]
  rcases h2 with h2 | ⟨t,h2,h4⟩
  ·rw [h2]
  ·rw [h2]
   dsimp only
   rw [if_neg h4]
def raddV (r : Nat × Nat × Int) : Value:=.tuple #[.int .i64 (r.1 : Int),.int .i64 (r.2.1 : Int),.int .i64 r.2.2]
theorem DAt.form {B b : Nat} {m : SS} {AI AP : Value} {vs : List Value} {W : World} (h : DAt B b m AI AP vs W) : ∃ A cap A2 cap2,AI = .slice A m.ms.length cap ∧ AP = .slice A2 m.ms.length cap2:=by
 obtain ⟨A,cap,h1,_⟩:=it_open (Rd.of_own h.its)
 obtain ⟨A2,cap2,h2,_⟩:=own_form0 h.pts
 exact ⟨A,cap,A2,cap2,h1,h2⟩
theorem RAdd_c (B b : Nat) (m : SS) (AI AP : Value) (vs : List Value) (s : ByteArray) (w : World) (h : DAt B b m AI AP vs w) (hs : s.size ≤ maxLen) (hl : m.last < 1000000) :
 Calls Tryz.prog 25 #[.pointer (some ⟨b,0,none⟩),.string s] w (DTo (raddV (m.added s)) B b (m.add s) w):=by
 obtain ⟨i0,hi0,hz0,hz1,hz2⟩:=info_parts info_item
 obtain ⟨r0',hri0,hrz0,hrz1,hrz2⟩:=info_parts info_row
 have HPA:=hid (RParse_e s w (by unfold maxLen at hs;omega))
 unfold RReadsTo at HPA
 have H:=hid h
 obtain ⟨A,cap,A2,cap2,rfl,rfl⟩:=h.form
 have hlen:=h.ok.len
 have hlt:=h.lt
 have hBw:=h.hBw
 unfold DTo raddV
 have c0 : w.cell? ⟨b,0,none⟩ = some (.slice A m.ms.length cap):=h.blk.cell 0
 cases hp : (parseE s).2.2 with
 | none =>
   have hne : (parseE s).1 ≠ 0:=fun e => by obtain ⟨t,ht⟩:=parseE_zero.1 e;rw [ht] at hp;cases hp
   have ha : m.added s = (0,(parseE s).2.1,(parseE s).1):=by unfold SS.added;rw [if_pos hne]
   have hs' : m.add s = m:=by unfold SS.add;rw [hp]
   rw [ha,hs']
   dsimp only
   have HP:=hid hp
   clear h hp ha hs' hne c0
   go_enter Tryz.func25,Tryz.ntmps25
   go_wp2_with fail
   refine HPA.out.mono ?_
   rintro e w1 ⟨hb1,⟨t,g,cp,hq,_,_⟩ | ⟨c,k,hq,hc,hk,rfl⟩⟩
   ·have:=HP.out;rw [hq] at this;cases this
   ·have HQ:=hid hq
    have H1:=hid (H.out.below hb1)
    have HK:=hid (DK.of_below (b:=b) H.out.hBw hb1)
    have dc : (c != 0) = true:=by simpa using hc
    clear hb1 hq hc
    go_wp2_with fail
    go_ret3
    exact ⟨by rw [HQ.out];rfl,_,_,vs,H1.out,HK.out⟩
 | some t =>
   obtain ⟨_,_,h60,hokt,hpe⟩:=parseE_some hp
   have h0 : ¬ (parseE s).1 ≠ 0:=by rw [hpe];simp
   have HPE:=hid hpe
   by_cases h12 : m.ms.length = 12
   ·have hms : ¬ m.ms.length < 12:=by omega
    have ha : m.added s = (0,0,3):=by unfold SS.added;rw [if_neg h0,if_neg hms]
    have hs' : m.add s = m:=by unfold SS.add;rw [hp];dsimp only;rw [if_neg hms]
    rw [ha,hs']
    dsimp only
    have d12 : decide ((12 : Int) ≤ (m.ms.length : Int)) = true:=by rw [h12];rfl
    clear h hp ha hs' h0 hms hpe h12
    go_enter Tryz.func25,Tryz.ntmps25
    go_wp2_with fail
    refine HPA.out.mono ?_
    rintro e w1 ⟨hb1,⟨t',g,cp,hq,rfl,_⟩ | ⟨c,k,hq,hc,hk,rfl⟩⟩
    ·have H1:=hid (H.out.below hb1)
     have HK:=hid (DK.of_below (b:=b) H.out.hBw hb1)
     have c0' : w1.cell? ⟨b,0,none⟩ = some (.slice A m.ms.length cap):=H1.out.blk.cell 0
     clear hb1 hq c0
     go_wp2_with fail
     go_ret3
     exact ⟨rfl,_,_,vs,H1.out,HK.out⟩
    ·rw [HPE.out] at hq;cases hq
   ·have hms : m.ms.length < 12:=by omega
    have ha : m.added s = (m.last + 1,0,0):=by unfold SS.added;rw [if_neg h0,if_pos hms]
    have hs' : m.add s = { m with ms:=m.ms ++ [⟨m.last + 1,s,t⟩],last:=m.last + 1 }:=by unfold SS.add;rw [hp];dsimp only;rw [if_pos hms]
    have hok2 : (m.add s).ok:=h.ok.add s
    have HOK:=hid hok2
    have HS:=hid hs'
    rw [ha]
    dsimp only
    have d12 : decide ((12 : Int) ≤ (m.ms.length : Int)) = false:=by simp;omega
    have hlz:=h.lastb
    have HHB:=hid h.hB
    clear h hp ha hs' h0 hms hpe h12 hok2
    go_enter Tryz.func25,Tryz.ntmps25
    go_wp2_with fail
    refine HPA.out.mono ?_
    rintro e w1 ⟨hb1,⟨t',g,cp,hq,rfl,ho1⟩ | ⟨c,k,hq,hc,hk,rfl⟩⟩
    ·have ht : t' = t:=by rw [HPE.out] at hq;cases hq;rfl
     subst ht
     have H1:=hid (H.out.below hb1)
     have HK1:=hid (DK.of_below (b:=b) H.out.hBw hb1)
     have HR1:=hid (ho1.lower H.out.hBw)
     obtain ⟨N,hN⟩ : ∃ N,N = (flat t').length:=⟨_,rfl⟩
     have HN:=hid hN
     rw [← hN] at HR1 ⊢
     have c0' : w1.cell? ⟨b,0,none⟩ = some (.slice A m.ms.length cap):=H1.out.blk.cell 0
     have c2 : w1.cell? ⟨b,2,none⟩ = some (.int .i64 (m.last : Int)):=H1.out.blk.cell 2
     have z2 : w1.frozen? ⟨b,2,none⟩ = false:=H1.out.blk.frozen 2
     have hlt1:=H1.out.lt
     clear hb1 hq c0 ho1 HPA hN
     go_wp2_with fail
     have H2 : Hid (DAt B b { m with last:=m.last + 1 } (.slice A m.ms.length cap) (.slice A2 m.ms.length cap2) vs (w1.setCell ⟨b,2,none⟩ (.int .i64 ((m.last : Int) + 1)))):=hid (by
      have:=H1.out.put { m with last:=m.last + 1 } rfl ⟨H1.out.ok.len,H1.out.ok.up,fun x hx => ⟨(H1.out.ok.pos x hx).1,Nat.le_succ_of_le (H1.out.ok.pos x hx).2⟩,H1.out.ok.read⟩ (by show m.last + 1 ≤ 1000000;omega) 2 (.int .i64 ((m.last : Int) + 1)) (by simp)
      exact this)
     have HK2 : Hid (DK B b w (w1.setCell ⟨b,2,none⟩ (.int .i64 ((m.last : Int) + 1)))):=hid (HK1.out.trans (DK.set HHB.out w1 2 _))
     have HR2 : Hid (RowIn (w1.setCell ⟨b,2,none⟩ (.int .i64 ((m.last : Int) + 1))) B (.slice (some ⟨g,0,none⟩) N cp) (flat t')):=hid (row_set HR1.out H1.out.blk (by decide))
     generalize w1.setCell ⟨b,2,none⟩ (.int .i64 ((m.last : Int) + 1)) = w3 at *
     have e0 : w3.cell? ⟨b,0,none⟩ = some (.slice A m.ms.length cap):=H2.out.blk.cell 0
     have e2 : w3.cell? ⟨b,2,none⟩ = some (.int .i64 ((m.last : Int) + 1)):=by have:=H2.out.blk.cell 2;simpa using this
     have hlt3:=H2.out.lt
     have hBw3:=H2.out.hBw
     have HNW : Hid (∀ (j : Nat) (u : Value),([.int .i64 ((m.last : Int) + 1),.string s] : List Value)[j]? = some u →
      (w3.alloc (.cells #[.int .i64 ((m.last : Int) + 1),.string s] 60)).drew.cell? ((⟨w3.heap.size,0,none⟩ : Addr).add j) = some u):=hid (by
      intro j u hu
      rw [add_mk,Nat.zero_add]
      have:=((Blk.new w3 60 #[.int .i64 ((m.last : Int) + 1),.string s]).drew).cell j
      rw [this]
      simpa using hu)
     have HON : Hid (∀ u ∈ ([.int .i64 ((m.last : Int) + 1),.string s] : List Value),u.oneCell' = true):=hid (by
      intro u hu
      simp only [List.mem_cons,List.not_mem_nil,or_false] at hu
      rcases hu with rfl | rfl <;> rfl)
     have HA3:=hid (((Below.refl w3.heap.size w3).alloc (Nat.le_refl _) (.cells #[.int .i64 ((m.last : Int) + 1),.string s] 60)).drew)
     have H4:=hid (H2.out.below HA3.out)
     have HR4:=hid (HR2.out.below HA3.out)
     have HK4:=hid (HK2.out.trans (DK.of_below hBw3 HA3.out))
     have HI4 : Hid (((w3.alloc (.cells #[.int .i64 ((m.last : Int) + 1),.string s] 60)).drew).ownsRow B 60 2 (.slice A m.ms.length cap) m.ms.length (m.ms.flatMap itCells)):=hid H4.out.its
     clear c0' c2 z2
     go_region_law (refine step_append_lies _ rfl (.tmp 37) (.tmp 44) 57 rfl B 60 i0 _ 2 24 Tryz.underlying57 hi0 hz0 hz1 hz2 rfl (by decide) (.slice A m.ms.length cap) m.ms.length (m.ms.flatMap itCells) ?a1 HI4.out ⟨w3.heap.size,0,none⟩ 1 1 [.int .i64 ((m.last : Int) + 1),.string s] ?a2 rfl HNW.out HON.out ?a4 ?a5 ?a6 ?a7 _ rfl ?_;(case a1 => simp [Act.eval,Act.put]);(case a2 => simp [Act.eval,Act.put]);(case a4 => omega);(case a5 => unfold maxLen;omega);(case a6 => omega);(case a7 => simp;omega);intro g' cp' w5 hown hg hat hlt5;have hbk : Blk w5 b 71 _:=blk_ty H4.out.blk HI4.out hg (by decide);have o1 : w5.cell? ⟨b,0,none⟩ = some (.slice A m.ms.length cap):=hbk.cell 0;have f1 : w5.frozen? ⟨b,0,none⟩ = false:=hbk.frozen 0;have HBK:=hid hbk;have HOW:=hid hown;have HGW:=hid hg;clear hbk hown hg hat hlt5)
     all_goals (
      have HB6:=hid (HBK.out.set_ 0 (.slice (some ⟨g',0,none⟩) (m.ms.length + 1) cp'))
      have HI6:=hid (HOW.out.kept (grown_setS w5 b 0 (.slice (some ⟨g',0,none⟩) (m.ms.length + 1) cp')) (.inr (own_not HOW.out HBK.out (by decide))))
      have hp5:=own_ty H4.out.pts HI4.out HGW.out (by decide)
      have HP6:=hid (hp5.kept (grown_setS w5 b 0 (.slice (some ⟨g',0,none⟩) (m.ms.length + 1) cp')) (.inr (own_not hp5 HBK.out (by decide))))
      have HRS6:=hid ((H4.out.rows.keep fun u l hr => row_ty hr HI4.out HGW.out (by decide)).keep fun u l hr => row_set (o:=0) (x:=.slice (some ⟨g',0,none⟩) (m.ms.length + 1) cp') hr HBK.out (by decide))
      have HR6:=hid (row_set (o:=0) (x:=.slice (some ⟨g',0,none⟩) (m.ms.length + 1) cp') (row_ty HR4.out HI4.out HGW.out (by decide)) HBK.out (by decide))
      have HK6:=hid ((HK4.out.trans (DK.grown H4.out.hBw (.inl rfl) HI4.out HGW.out)).trans (DK.set HHB.out w5 0 (.slice (some ⟨g',0,none⟩) (m.ms.length + 1) cp')))
      clear hp5
      generalize (w5.setCell ⟨b,0,none⟩ (.slice (some ⟨g',0,none⟩) (m.ms.length + 1) cp')) = w6 at *
      have hltb : b < w6.heap.size:=Blk.lt HB6.out
      have hBB:=HHB.out
      have e1 : w6.cell? ⟨b,1,none⟩ = some (.slice A2 m.ms.length cap2):=by have:=HB6.out.cell 1;simpa using this
      have hba : Below w6.heap.size w6 (w6.alloc (.cells #[.slice (some ⟨g,0,none⟩) N cp] 22)):=(Below.refl _ _).alloc (Nat.le_refl _) _
      have HBA:=hid hba
      clear hba e0 e2 o1 f1 hlt3 hBw3 hlt1
      go_wp2_with (at_builtin;refine wpList_append_lies _ rfl (.tmp 52) (.tmp 54) _ rfl B 22 r0' _ 1 24 Tryz.underlying69 hri0 hrz0 hrz1 hrz2 rfl (by omega) _ m.ms.length vs rfl (HP6.out.alloc _) ⟨w6.heap.size,0,none⟩ 1 1 [.slice (some ⟨g,0,none⟩) N cp] rfl rfl (new_oneR _ _ _ _ rfl) (by intro u hu;simp at hu;subst hu;rfl) (by omega) (by unfold maxLen;omega) (by omega) (by simp;omega) _ rfl ?_;intro g8 cp8 w8 hown8 hg8 hat8 hlt8;have hb8 : Blk w8 b 71 _:=blk_ty (HB6.out.alloc _) (HP6.out.alloc _) hg8 (by decide);have o8 : w8.cell? ⟨b,1,none⟩ = some (.slice A2 m.ms.length cap2):=(by have:=hb8.cell 1;simpa using this);have f8 : w8.frozen? ⟨b,1,none⟩ = false:=hb8.frozen 1;have l8 : w8.cell? ⟨b,2,none⟩ = some (.int .i64 ((m.last : Int) + 1)):=(by have:=hb8.cell 2;simpa using this);have HB8:=hid hb8;have HO8:=hid hown8;have HG8:=hid hg8;clear hb8 hown8 hg8 hat8 hlt8)
      go_ret3
      have HI8:=own_ty (HI6.out.alloc (.cells #[.slice (some ⟨g,0,none⟩) N cp] 22)) (HP6.out.alloc _) HG8.out (by decide)
      have hfin : DAt B b (m.add s) (.slice (some ⟨g',0,none⟩) (m.ms.length + 1) cp') (.slice (some ⟨g8,0,none⟩) (m.ms.length + 1) cp8) (vs ++ [.slice (some ⟨g,0,none⟩) N cp]) (w8.setCell ⟨b,1,none⟩ (.slice (some ⟨g8,0,none⟩) (m.ms.length + 1) cp8)) ∧ DK B b w (w8.setCell ⟨b,1,none⟩ (.slice (some ⟨g8,0,none⟩) (m.ms.length + 1) cp8)):=by
       refine ⟨?_,?_⟩
       ·rw [HS.out] at HOK ⊢
        refine ⟨hBB,?_,?_,?_,?_,HOK.out,by show m.last + 1 ≤ 1000000;omega⟩
        ·have:=HB8.out.set_ 1 (.slice (some ⟨g8,0,none⟩) (m.ms.length + 1) cp8)
         simpa using this
        ·have h1:=HI8.kept (grown_setS w8 b 1 (.slice (some ⟨g8,0,none⟩) (m.ms.length + 1) cp8)) (.inr (own_not HI8 HB8.out (by decide)))
         simpa [itCells] using h1
        ·have h1:=HO8.out.kept (grown_setS w8 b 1 (.slice (some ⟨g8,0,none⟩) (m.ms.length + 1) cp8)) (.inr (own_not HO8.out HB8.out (by decide)))
         simpa using h1
        ·have h1 : RowsAt (w6.alloc (.cells #[.slice (some ⟨g,0,none⟩) N cp] 22)) B (vs ++ [.slice (some ⟨g,0,none⟩) N cp]) (m.ms.map (fun x => flat x.t) ++ [flat t']):=(HRS6.out.snoc HR6.out).keep fun u l hr => hr.below HBA.out
         have h2:=(h1.keep fun u l hr => row_ty hr (HP6.out.alloc _) HG8.out (by decide)).keep fun u l hr => row_set (o:=1) (x:=.slice (some ⟨g8,0,none⟩) (m.ms.length + 1) cp8) hr HB8.out (by decide)
         simpa using h2
       ·exact ((HK6.out.trans (DK.of_below (by omega) HBA.out)).trans (DK.grown (by simp;omega) (.inr rfl) (HP6.out.alloc _) HG8.out)).trans (DK.set hBB w8 1 _)
      first
       | exact ⟨rfl,⟨_,_,_,hfin.1⟩,hfin.2.bel,hfin.2.keep⟩
       | exact ⟨rfl,_,_,_,hfin.1,hfin.2⟩)
    ·rw [HPE.out] at hq;cases hq
end Go.Proofs.YthcahjnniendnacGreatDoor.setW
