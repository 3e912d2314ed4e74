/-
  Emb, Prt, PrtW, Print.
-/
import Derived.Test.YthhcpbfgoofppaaGreatDoorGCls
import Derived.Test.YthhcpbfgoofppaaGreatDoorGPy
import Derived.Test.YthhcpbfgoofppaaGreatDoorGRex
import Derived.Test.YthhcpbfgoofppaaGreatDoorSynJ
import Derived.Defers
import Derived.Shelf.RegionOpenPlain
import Derived.Lib.UnsafeStr
import Derived.Lib.AppendStr
set_option linter.unusedVariables false
set_option linter.unusedSimpArgs false
set_option maxRecDepth 100000
set_option maxHeartbeats 64000000
open Go.Lib (hid)
namespace Go.Proofs.YthhcpbfgoofppaaGreatDoor
open Go.RowKit Wf
set_option linter.unusedVariables false
structure WK (B b : Nat) (w w' : World) : Prop where
 bel : Below B w w'
 keep : ∀ (i : Nat) (cs : Array Value) (t : TypeId),i ≠ b → t ≠ 5 → Blk w i t cs → Blk w' i t cs
theorem WK.refl (B b : Nat) (w : World) : WK B b w w:=⟨Below.refl _ _,fun _ _ _ _ _ h => h⟩
theorem WK.trans {B b : Nat} {w w1 w2 : World} (h : WK B b w w1) (k : WK B b w1 w2) : WK B b w w2:=⟨h.bel.trans k.bel,fun i cs t h1 h2 h3 => k.keep i cs t h1 h2 (h.keep i cs t h1 h2 h3)⟩
theorem WK.of_below {B b : Nat} {w w' : World} (hB : B ≤ w.heap.size) (h : Below w.heap.size w w') : WK B b w w':=⟨h.mono hB,fun _ _ _ _ _ hb => hb.kept h⟩
theorem WK.set {B b : Nat} (hB : B ≤ b) (w : World) (o : Nat) (u : Value) : WK B b w (w.setCell ⟨b,o,none⟩ u):=⟨(Below.refl _ _).setCell (p:=⟨b,o,none⟩) hB u,fun i cs t h1 _ h3 => h3.far (p:=⟨b,o,none⟩) h1 u⟩
theorem WK.grown {B b n : Nat} {w w' : World} {v : Value} {xs : List Value} (hB : B ≤ w.heap.size) (ho : w.ownsRow B 5 1 v n xs) (hg : w.grownBy w' v.ownBlock) : WK B b w w':=by
 refine ⟨⟨hg.os,hg.tape,hg.output,hg.size,fun i hi => hg.block i (by omega) fun e => by have:=(ho.lt i e.symm).1;omega⟩,fun i cs t _ ht hb => ?_⟩
 refine (hg.block i hb.lt fun e => ?_).trans hb
 obtain ⟨_,h2⟩:=ho
 rcases h2 with ⟨rfl,_⟩ | ⟨g,cap,cur,rfl,_,hgg,_⟩
 ·cases e
 ·have : i = g:=Option.some.inj e
  subst this
  have hb' : w.heap[i]? = some (.cells cs t (0,0)):=hb
  rw [hb'] at hgg
  injection hgg with hgg
  injection hgg with _ hgg _
  exact ht hgg
theorem grown_setW (W : World) (g i : Nat) (u : Value) : W.grownBy (W.setCell ⟨g,i,none⟩ u) (some g):=⟨rfl,rfl,rfl,by simp,fun k _ hk => Below.heap_setCell W _ _ k (fun e => hk (by rw [e]))⟩
def IsP (b : Nat) (p : Value) : Prop:=p = .pointer none ∨ p = .pointer (some ⟨b,0,none⟩)
structure Wr (B b : Nat) (p rv : Value) (k : Nat) (l : List UInt8) (v : Value) (w : World) : Prop where
 hB : B ≤ b
 blk : Blk w b 131 #[p,v,rv,.int .i64 (k : Int)]
 own : w.ownsRow B 5 1 v l.length (Lib.byteCells l)
 ne : v.ownBlock ≠ some b
 nil : l = [] → v = .slice none 0 0
section
variable {B b k : Nat} {p rv v : Value} {l : List UInt8} {w : World}
theorem Wr.form (h : Wr B b p rv k l v w) : ∃ A cap,v = .slice A l.length cap:=by
 rcases h.own.2 with ⟨hv,h0⟩ | ⟨g,cap,cur,hv,_⟩
 ·exact ⟨none,0,by rw [hv,h0]⟩
 ·exact ⟨_,_,hv⟩
theorem Wr.lt (h : Wr B b p rv k l v w) : b < w.heap.size:=h.blk.lt
theorem Wr.below {w' : World} (h : Wr B b p rv k l v w) (hb : Below w.heap.size w w') : Wr B b p rv k l v w' :=
 ⟨h.hB,h.blk.kept hb,World.ownsRow.kept (row:=none) h.own ⟨hb.os,hb.tape,hb.output,hb.size,fun i hi _ => hb.block i hi⟩ (by cases hv : v.ownBlock <;> simp),h.ne,h.nil⟩
theorem Wr.set0 (h : Wr B b p rv k l v w) (q : Value) : Wr B b q rv k l v (w.setCell ⟨b,0,none⟩ q) :=
 ⟨h.hB,by have:=h.blk.set_ 0 q;simpa using this,h.own.kept (grown_setW w b 0 q) (by have:=h.ne;exact .inr this),h.ne,h.nil⟩
theorem Wr.set3 (h : Wr B b p rv k l v w) (j : Nat) : Wr B b p rv j l v (w.setCell ⟨b,3,none⟩ (.int .i64 (j : Int))) :=
 ⟨h.hB,by have:=h.blk.set_ 3 (.int .i64 (j : Int));simpa using this,h.own.kept (grown_setW w b 3 _) (by have:=h.ne;exact .inr this),h.ne,h.nil⟩
end
theorem wr_info : ∃ j,Tryz.prog.info? 32 = some j ∧ j.size = 2:=by
 have : (Tryz.prog.info? 32).map (·.size) = some 2:=by kernel_rfl
 obtain ⟨j,h1,h2⟩:=Option.map_eq_some_iff.1 this
 exact ⟨j,h1,h2⟩
theorem wr_lies : liesAt Tryz.prog Tryz.prog.depth 131 (4 / Tryz.prog.cellsOf 131) 0 32 1 = true:=by kernel_rfl
def ChkIs (B b : Nat) (rv : Value) (k : Nat) (l : List UInt8) (v : Value) (w : World) (e : Ending) (w' : World) : Prop :=
 e = .returned (.tuple #[]) ∧ Wr B b (.pointer (some ⟨b,0,none⟩)) rv k l v w' ∧ WK B b w w'
theorem emb_check (B b k : Nat) (p rv v : Value) (l : List UInt8) (w : World) (h : Wr B b p rv k l v w) (hp : IsP b p) :
 Calls Tryz.prog 14 #[.pointer (some ⟨b,0,none⟩)] w (ChkIs B b rv k l v w):=by
 obtain ⟨j,hj,hjs⟩:=wr_info
 rcases hp with rfl | rfl
 ·have h0 : w.cell? ⟨b,0,none⟩ = some (.pointer none):=h.blk.cell 0
  have hsh : w.shape? b = some (131,4):=by have:=h.blk;unfold Blk at this;simp [World.shape?,this]
  have hfz:=h.blk.frozen 0
  have H:=hid h
  clear h
  go_enter Tryz.func14,Tryz.ntmps14
  go_wp2
  rw [Lib.run_to_unsafe w ⟨b,0,none⟩ Tryz.underlying29 Tryz.underlying92 hj (by rw [hjs];decide) hsh (Nat.zero_lt_succ 3)]
  simp only [Result.andThen]
  rw [Oper.upon_value]
  go_wp2
  rw [run_callFunc_extern Tryz.func43 (by kernel_rfl) (by kernel_rfl) (by kernel_rfl) (e:=Extern.AbiNoEscape.same) (by kernel_rfl)]
  rw [Lib.run_noEscape]
  simp only [Result.andThen]
  rw [Oper.upon_value]
  go_wp2
  rw [Lib.run_from_unsafe w ⟨b,0,none⟩ Tryz.underlying92 Tryz.underlying29 hj hsh wr_lies]
  simp only [Result.andThen]
  rw [Oper.upon_value]
  go_wp2
  go_end0
  exact ⟨rfl,H.out.set0 _,WK.set H.out.hB w 0 _⟩
 ·have h0 : w.cell? ⟨b,0,none⟩ = some (.pointer (some ⟨b,0,none⟩)):=h.blk.cell 0
  have H:=hid h
  clear h
  go_enter Tryz.func14,Tryz.ntmps14
  go_wp2
  rw [Lib.run_neq_ptr_same w _ Tryz.underlying29 hj]
  go_wp2
  go_end0
  exact ⟨rfl,H.out,WK.refl _ _ _⟩
theorem info_u8 : (Tryz.prog.info? 5).map (fun i => (i.zero,i.size,i.bytes)) = some (some (.int .u8 0),1,1):=by kernel_rfl
def WroteIs (ret : Value) (B b : Nat) (rv : Value) (k : Nat) (l : List UInt8) (w : World) (e : Ending) (w' : World) : Prop :=
 e = .returned ret ∧ ∃ v',Wr B b (.pointer (some ⟨b,0,none⟩)) rv k l v' w' ∧ WK B b w w'
theorem emb_byte (B b k c : Nat) (hc : c < 256) (p rv v : Value) (l : List UInt8) (w : World) (h : Wr B b p rv k l v w) (hp : IsP b p) (hlen : l.length ≤ 100000000) :
 Calls Tryz.prog 105 #[.pointer (some ⟨b,0,none⟩),.int .u8 (c : Int)] w (WroteIs .nilIface B b rv k (l ++ [UInt8.ofNat c]) w):=by
 obtain ⟨i0,hi,hz0,hz1,hz2⟩:=info_parts info_u8
 have hBw : B ≤ w.heap.size:=by have:=h.hB;have:=h.lt;omega
 have HCK:=hid (emb_check B b k p rv v l w h hp)
 have hcz : Lib.byteCells (l ++ [UInt8.ofNat c]) = Lib.byteCells l ++ [.int .u8 (c : Int)]:=by simp [Lib.byteCells,Nat.mod_eq_of_lt hc]
 have HCZ:=hid hcz
 unfold ChkIs at HCK
 clear h hp hcz
 go_enter Tryz.func105,Tryz.ntmps105
 go_wp2_with fail
 refine HCK.out.mono ?_
 rintro e w1 ⟨rfl,h1,hk1⟩
 obtain ⟨A1,cap1,rfl⟩:=h1.form
 have H1:=hid h1
 have HK1:=hid hk1
 have c1 : w1.cell? ⟨b,1,none⟩ = some (.slice A1 l.length cap1):=h1.blk.cell 1
 have hs1 : B ≤ w1.heap.size:=Nat.le_trans hBw hk1.bel.size
 clear h1 hk1 HCK
 go_wp2_with (at_builtin;refine wpList_append_own _ rfl _ _ 30 rfl B 5 i0 (.int .u8 0) 1 1 Tryz.underlying30 hi hz0 hz1 hz2 rfl (by decide) _ _ _ rfl (H1.out.own.alloc _) ⟨w1.heap.size,0,none⟩ 1 1 [.int .u8 (c : Int)] rfl rfl ?c1 ?c2 ?c3 ?c4 ?c5 ?_)
 case c1 =>
  intro j u hj
  match j,hj with
  | 0,hj => simp at hj;subst hj;simp [Addr.add]
 case c2 => intro u hu;simp at hu;subst hu;rfl
 case c3 => unfold maxLen;omega
 case c4 => omega
 case c5 => simp;omega
 intro v' w2 hown' hgrow _
 have hb2 : Blk w2 b 131 #[.pointer (some ⟨b,0,none⟩),.slice A1 l.length cap1,rv,.int .i64 (k : Int)]:=by
  have:=H1.out.blk
  have hlt:=H1.out.lt
  refine (hgrow.block b (by simp;omega) (fun e => H1.out.ne e.symm)).trans ?_
  exact (this.alloc _)
 have d0 : w2.cell? ⟨b,0,none⟩ = some (.pointer (some ⟨b,0,none⟩)):=hb2.cell 0
 have d1 : w2.cell? ⟨b,1,none⟩ = some (.slice A1 l.length cap1):=hb2.cell 1
 have f1 : w2.frozen? ⟨b,1,none⟩ = false:=hb2.frozen 1
 obtain ⟨g,cap,rfl⟩ : ∃ g cap,v' = .slice (some ⟨g,0,none⟩) (l.length + 1) cap:=by
  rcases hown'.2 with ⟨_,h0⟩ | ⟨g,cap,cur,hv,_⟩
  ·omega
  ·exact ⟨g,cap,hv⟩
 have hne : (Value.slice (some ⟨g,0,none⟩) (l.length + 1) cap).ownBlock ≠ some b:=fun e => by
  rcases hown'.2 with ⟨_,h0⟩ | ⟨g',cap',cur,hv,_,hgg,_⟩
  ·omega
  ·injection hv with hv1
   injection hv1 with hv1
   injection hv1 with hv1
   have e' : g = b:=Option.some.inj e
   rw [← hv1,e'] at hgg
   have hb2' : w2.heap[b]? = some (.cells #[.pointer (some ⟨b,0,none⟩),.slice A1 l.length cap1,rv,.int .i64 (k : Int)] 131 (0,0)):=hb2
   rw [hb2'] at hgg
   injection hgg with hgg
   injection hgg with _ hgg _
   exact absurd hgg (by decide)
 have hK:=((HK1.out.trans (WK.of_below hs1 ((Below.refl _ _).alloc (Nat.le_refl _) (.cells #[.int .u8 (c : Int)] 5)))).trans (WK.grown (b:=b) (by simp;omega) (H1.out.own.alloc _) hgrow)).trans (WK.set H1.out.hB w2 1 (.slice (some ⟨g,0,none⟩) (l.length + 1) cap))
 have hW : Wr B b (.pointer (some ⟨b,0,none⟩)) rv k (l ++ [UInt8.ofNat c]) (.slice (some ⟨g,0,none⟩) (l.length + 1) cap) (w2.setCell ⟨b,1,none⟩ (.slice (some ⟨g,0,none⟩) (l.length + 1) cap)) :=
  ⟨H1.out.hB,by have:=hb2.set_ 1 (.slice (some ⟨g,0,none⟩) (l.length + 1) cap);simpa using this,by
    have:=hown'.kept (grown_setW w2 b 1 (.slice (some ⟨g,0,none⟩) (l.length + 1) cap)) (.inr hne)
    rw [HCZ.out,List.length_append]
    exact this,hne,fun h => by simp at h⟩
 have HKK:=hid hK
 have HWW:=hid hW
 clear hK hW hgrow hown' hne hb2
 go_wp2
 go_ret
 exact ⟨rfl,_,HWW.out,HKK.out⟩
theorem emb_byteD (B b k c : Nat) (hc : c < 256) (p rv v : Value) (l : List UInt8) (w : World) (u : FrameMode) (h : Wr B b p rv k l v w) (hp : IsP b p) (hlen : l.length ≤ 100000000) :
 CallsD Tryz.prog 105 #[.pointer (some ⟨b,0,none⟩),.int .u8 (c : Int)] u w (fun e u' w' => u' = u ∧ WroteIs .nilIface B b rv k (l ++ [UInt8.ofNat c]) w e w'):=by
 obtain ⟨i0,hi,hz0,hz1,hz2⟩:=info_parts info_u8
 have hBw : B ≤ w.heap.size:=by have:=h.hB;have:=h.lt;omega
 have HCK:=hid (emb_check B b k p rv v l w h hp)
 have hcz : Lib.byteCells (l ++ [UInt8.ofNat c]) = Lib.byteCells l ++ [.int .u8 (c : Int)]:=by simp [Lib.byteCells,Nat.mod_eq_of_lt hc]
 have HCZ:=hid hcz
 unfold ChkIs at HCK
 clear h hp hcz
 go_enter_d Tryz.func105,Tryz.ntmps105
 go_wp2_with fail
 refine HCK.out.mono ?_
 rintro e w1 ⟨rfl,h1,hk1⟩
 obtain ⟨A1,cap1,rfl⟩:=h1.form
 have H1:=hid h1
 have HK1:=hid hk1
 have c1 : w1.cell? ⟨b,1,none⟩ = some (.slice A1 l.length cap1):=h1.blk.cell 1
 have hs1 : B ≤ w1.heap.size:=Nat.le_trans hBw hk1.bel.size
 clear h1 hk1 HCK
 go_wp2_with (at_builtin;refine wpList_append_own _ rfl _ _ 30 rfl B 5 i0 (.int .u8 0) 1 1 Tryz.underlying30 hi hz0 hz1 hz2 rfl (by decide) _ _ _ rfl (H1.out.own.alloc _) ⟨w1.heap.size,0,none⟩ 1 1 [.int .u8 (c : Int)] rfl rfl ?c1 ?c2 ?c3 ?c4 ?c5 ?_)
 case c1 =>
  intro j u hj
  match j,hj with
  | 0,hj => simp at hj;subst hj;simp [Addr.add]
 case c2 => intro u hu;simp at hu;subst hu;rfl
 case c3 => unfold maxLen;omega
 case c4 => omega
 case c5 => simp;omega
 intro v' w2 hown' hgrow _
 have hb2 : Blk w2 b 131 #[.pointer (some ⟨b,0,none⟩),.slice A1 l.length cap1,rv,.int .i64 (k : Int)]:=by
  have:=H1.out.blk
  have hlt:=H1.out.lt
  refine (hgrow.block b (by simp;omega) (fun e => H1.out.ne e.symm)).trans ?_
  exact (this.alloc _)
 have d0 : w2.cell? ⟨b,0,none⟩ = some (.pointer (some ⟨b,0,none⟩)):=hb2.cell 0
 have d1 : w2.cell? ⟨b,1,none⟩ = some (.slice A1 l.length cap1):=hb2.cell 1
 have f1 : w2.frozen? ⟨b,1,none⟩ = false:=hb2.frozen 1
 obtain ⟨g,cap,rfl⟩ : ∃ g cap,v' = .slice (some ⟨g,0,none⟩) (l.length + 1) cap:=by
  rcases hown'.2 with ⟨_,h0⟩ | ⟨g,cap,cur,hv,_⟩
  ·omega
  ·exact ⟨g,cap,hv⟩
 have hne : (Value.slice (some ⟨g,0,none⟩) (l.length + 1) cap).ownBlock ≠ some b:=fun e => by
  rcases hown'.2 with ⟨_,h0⟩ | ⟨g',cap',cur,hv,_,hgg,_⟩
  ·omega
  ·injection hv with hv1
   injection hv1 with hv1
   injection hv1 with hv1
   have e' : g = b:=Option.some.inj e
   rw [← hv1,e'] at hgg
   have hb2' : w2.heap[b]? = some (.cells #[.pointer (some ⟨b,0,none⟩),.slice A1 l.length cap1,rv,.int .i64 (k : Int)] 131 (0,0)):=hb2
   rw [hb2'] at hgg
   injection hgg with hgg
   injection hgg with _ hgg _
   exact absurd hgg (by decide)
 have hK:=((HK1.out.trans (WK.of_below hs1 ((Below.refl _ _).alloc (Nat.le_refl _) (.cells #[.int .u8 (c : Int)] 5)))).trans (WK.grown (b:=b) (by simp;omega) (H1.out.own.alloc _) hgrow)).trans (WK.set H1.out.hB w2 1 (.slice (some ⟨g,0,none⟩) (l.length + 1) cap))
 have hW : Wr B b (.pointer (some ⟨b,0,none⟩)) rv k (l ++ [UInt8.ofNat c]) (.slice (some ⟨g,0,none⟩) (l.length + 1) cap) (w2.setCell ⟨b,1,none⟩ (.slice (some ⟨g,0,none⟩) (l.length + 1) cap)) :=
  ⟨H1.out.hB,by have:=hb2.set_ 1 (.slice (some ⟨g,0,none⟩) (l.length + 1) cap);simpa using this,by
    have:=hown'.kept (grown_setW w2 b 1 (.slice (some ⟨g,0,none⟩) (l.length + 1) cap)) (.inr hne)
    rw [HCZ.out,List.length_append]
    exact this,hne,fun h => by simp at h⟩
 have HKK:=hid hK
 have HWW:=hid hW
 clear hK hW hgrow hown' hne hb2
 go_wp2
 go_ret
 exact ⟨rfl,_,HWW.out,HKK.out⟩
theorem emb_str (B b k : Nat) (s : ByteArray) (h0 : 0 < s.size) (p rv v : Value) (l : List UInt8) (w : World) (h : Wr B b p rv k l v w) (hp : IsP b p) (hlen : l.length + s.size ≤ 100000000) :
 Calls Tryz.prog 9 #[.pointer (some ⟨b,0,none⟩),.string s] w (WroteIs (.tuple #[.int .i64 (s.size : Int),.nilIface]) B b rv k (l ++ s.data.toList) w):=by
 obtain ⟨i0,hi,hz0,hz1,hz2⟩:=info_parts info_u8
 have hBw : B ≤ w.heap.size:=by have:=h.hB;have:=h.lt;omega
 have HCK:=hid (emb_check B b k p rv v l w h hp)
 have hcz : Lib.byteCells (l ++ s.data.toList) = Lib.byteCells l ++ Lib.strCells s:=by simp [Lib.byteCells,Lib.strCells]
 have HCZ:=hid hcz
 unfold ChkIs at HCK
 clear h hp hcz
 go_enter Tryz.func9,Tryz.ntmps9
 go_wp2_with fail
 refine HCK.out.mono ?_
 rintro e w1 ⟨rfl,h1,hk1⟩
 obtain ⟨A1,cap1,rfl⟩:=h1.form
 have H1:=hid h1
 have HK1:=hid hk1
 have c1 : w1.cell? ⟨b,1,none⟩ = some (.slice A1 l.length cap1):=h1.blk.cell 1
 have hs1 : B ≤ w1.heap.size:=Nat.le_trans hBw hk1.bel.size
 clear h1 hk1 HCK
 go_wp2_with (at_builtin;refine Lib.wpList_append_own_string _ rfl _ _ 30 9 rfl B 5 i0 Tryz.underlying30 Tryz.underlying9 hi hz0 hz1 hz2 _ _ _ rfl H1.out.own s rfl ?c3 ?c4 ?c5 ?_)
 case c3 => unfold maxLen;omega
 case c4 => omega
 case c5 => omega
 intro v' w2 hown' hgrow _
 have hb2 : Blk w2 b 131 #[.pointer (some ⟨b,0,none⟩),.slice A1 l.length cap1,rv,.int .i64 (k : Int)]:=by
  have:=H1.out.blk
  have hlt:=H1.out.lt
  refine (hgrow.block b (by omega) (fun e => H1.out.ne e.symm)).trans ?_
  exact this
 have d0 : w2.cell? ⟨b,0,none⟩ = some (.pointer (some ⟨b,0,none⟩)):=hb2.cell 0
 have d1 : w2.cell? ⟨b,1,none⟩ = some (.slice A1 l.length cap1):=hb2.cell 1
 have f1 : w2.frozen? ⟨b,1,none⟩ = false:=hb2.frozen 1
 obtain ⟨g,cap,rfl⟩ : ∃ g cap,v' = .slice (some ⟨g,0,none⟩) (l.length + s.size) cap:=by
  rcases hown'.2 with ⟨_,h0⟩ | ⟨g,cap,cur,hv,_⟩
  ·omega
  ·exact ⟨g,cap,hv⟩
 have hne : (Value.slice (some ⟨g,0,none⟩) (l.length + s.size) cap).ownBlock ≠ some b:=fun e => by
  rcases hown'.2 with ⟨_,h0⟩ | ⟨g',cap',cur,hv,_,hgg,_⟩
  ·omega
  ·injection hv with hv1
   injection hv1 with hv1
   injection hv1 with hv1
   have e' : g = b:=Option.some.inj e
   rw [← hv1,e'] at hgg
   have hb2' : w2.heap[b]? = some (.cells #[.pointer (some ⟨b,0,none⟩),.slice A1 l.length cap1,rv,.int .i64 (k : Int)] 131 (0,0)):=hb2
   rw [hb2'] at hgg
   injection hgg with hgg
   injection hgg with _ hgg _
   exact absurd hgg (by decide)
 have hK:=(HK1.out.trans (WK.grown (b:=b) hs1 H1.out.own hgrow)).trans (WK.set H1.out.hB w2 1 (.slice (some ⟨g,0,none⟩) (l.length + s.size) cap))
 have hW : Wr B b (.pointer (some ⟨b,0,none⟩)) rv k (l ++ s.data.toList) (.slice (some ⟨g,0,none⟩) (l.length + s.size) cap) (w2.setCell ⟨b,1,none⟩ (.slice (some ⟨g,0,none⟩) (l.length + s.size) cap)) :=
  ⟨H1.out.hB,by have:=hb2.set_ 1 (.slice (some ⟨g,0,none⟩) (l.length + s.size) cap);simpa using this,by
    have:=hown'.kept (grown_setW w2 b 1 (.slice (some ⟨g,0,none⟩) (l.length + s.size) cap)) (.inr hne)
    rw [HCZ.out,List.length_append,show s.data.toList.length = s.size by simp]
    exact this,hne,fun h => by have h2:=congrArg List.length h;rw [List.length_append,show s.data.toList.length = s.size by simp,List.length_nil] at h2;omega⟩
 have HKK:=hid hK
 have HWW:=hid hW
 clear hK hW hgrow hown' hne hb2
 go_wp2
 go_ret2
 exact ⟨rfl,_,HWW.out,HKK.out⟩
theorem emb_len (B b k : Nat) (p rv v : Value) (l : List UInt8) (w : World) (h : Wr B b p rv k l v w) :
 Calls Tryz.prog 73 #[.pointer (some ⟨b,0,none⟩)] w (fun e w' => e = .returned (.int .i64 (l.length : Int)) ∧ w = w'):=by
 obtain ⟨A1,cap1,rfl⟩:=h.form
 have c1 : w.cell? ⟨b,1,none⟩ = some (.slice A1 l.length cap1):=h.blk.cell 1
 clear h
 go_enter Tryz.func73,Tryz.ntmps73
 go_wp2
 go_ret
 exact ⟨rfl,rfl⟩
theorem emb_string (B b k : Nat) (p rv v : Value) (l : List UInt8) (w : World) (h : Wr B b p rv k l v w) :
 Calls Tryz.prog 11 #[.pointer (some ⟨b,0,none⟩)] w (fun e w' => e = .returned (.string ⟨l.toArray⟩) ∧ Below B w w'):=by
 by_cases hl : l = []
 ·have hv:=h.nil hl
  subst hl
  subst hv
  have c1 : w.drew.cell? ⟨b,1,none⟩ = some (.slice none 0 0):=h.blk.cell 1
  have hUS : ∀ (W : World) (q : Option Addr),(Builtin.unsafeString_ #[78,3] 9 #[.pointer q,.int .i64 0]).run Tryz.prog W = .ok (.string .empty) W:=fun W q => Lib.run_unsafeString_none W _ _ _ q
  have hSD : (Builtin.unsafeSliceData_ #[30] 78 #[.slice none 0 0]).run Tryz.prog w.drew = .ok (.pointer none) w.drew:=rfl
  clear h
  go_enter Tryz.func11,Tryz.ntmps11
  go_wp2
  go_region
  all_goals (go_wp2;go_ret;exact ⟨rfl,Below.drew (Below.refl B w)⟩)
 ·have hl0 : l.length ≠ 0:=by simpa using hl
  obtain ⟨g,cap,cur,rfl,hbg,hg,hnc,hcm,hcs,htake⟩ : ∃ g cap cur,v = .slice (some ⟨g,0,none⟩) l.length cap ∧ B ≤ g ∧ w.heap[g]? = some (.cells cur 5 (0,0)) ∧ l.length ≤ cap ∧ cap ≤ maxLen ∧ cur.size = cap * 1 ∧ cur.toList.take (l.length * 1) = Lib.byteCells l:=by
   rcases h.own.2 with ⟨_,hz⟩ | ⟨g,cap,cur,hv,r⟩
   ·exact absurd hz hl0
   ·exact ⟨g,cap,cur,hv,r⟩
  have c1 : w.drew.cell? ⟨b,1,none⟩ = some (.slice (some ⟨g,0,none⟩) l.length cap):=h.blk.cell 1
  have hSD : (Builtin.unsafeSliceData_ #[30] 78 #[.slice (some ⟨g,0,none⟩) l.length cap]).run Tryz.prog w.drew = .ok (.pointer (some ⟨g,0,none⟩)) w.drew :=
   Lib.run_unsafeSliceData_row _ _ _ _ _ _ (by omega)
  have hUS : (Builtin.unsafeString_ #[78,3] 9 #[.pointer (some ⟨g,0,none⟩),.int .i64 l.length]).run Tryz.prog w.drew = .ok (.string ⟨l.toArray⟩) (w.drew.freeze ⟨g,0,none⟩ l.length):=by
   refine Lib.run_unsafeString_row w.drew 78 3 9 5 Tryz.underlying78 (by kernel_rfl) g cur.size (by have hg' : w.drew.heap[g]? = some (.cells cur 5 (0,0)):=hg;simp [World.shape?,hg']) l hl (by omega) (by unfold maxLen at hcm;omega) ?_
   intro j x hx
   exact h.own.cells (g:=g) rfl j (.int .u8 x.toNat) (by simp [Lib.byteCells,hx])
  clear h hl hl0 hcs htake hnc hcm hg
  go_enter Tryz.func11,Tryz.ntmps11
  go_wp2
  go_region
  all_goals (go_wp2;go_ret;exact ⟨rfl,Lib.below_freeze (Below.drew (Below.refl B w)) (p:=⟨g,0,none⟩) hbg _⟩)
set_option linter.unusedVariables false
def bndO (q op : Nat) (sec : Bool) : Bool:=if op = 2 then q != 4 else if op = 4 then (q != 4 || !sec) else if op = 3 then (q != 4 && (q != 3 || !sec)) else false
def opT : Rx → Nat
 | .byte _ => 1
 | .empty => 2
 | .cat _ _ => 3
 | .alt _ _ => 4
 | .star _ => 5
 | .plus _ => 6
 | .opt _ => 7
 | .bgn => 8
 | .fin => 9
theorem bnd_op (q : Nat) (sec : Bool) (u : Rx) : bnd q sec u = bndO q (opT u) sec:=by cases u <;> rfl
theorem bound_c (q op : Nat) (sec : Bool) (r : Bool) (hr : r = bndO q op sec) (w : World) :
 Calls Tryz.prog 142 #[.int .i64 (q : Int),.int .i64 (op : Int),.bool sec] w (fun e w' => e = .returned (.bool r) ∧ w = w'):=by
 have e4 : ∀ (b : Bool),(q == 4) = b → ((q : Int) == 4) = b ∧ ((q : Int) != 4) = !b:=fun b h => by
  have : ((q : Int) == 4) = b:=by rw [← h,Bool.eq_iff_iff];simp;omega
  exact ⟨this,by rw [bne,this]⟩
 have e3 : ∀ (b : Bool),(q == 3) = b → ((q : Int) == 3) = b ∧ ((q : Int) != 3) = !b:=fun b h => by
  have : ((q : Int) == 3) = b:=by rw [← h,Bool.eq_iff_iff];simp;omega
  exact ⟨this,by rw [bne,this]⟩
 obtain ⟨b4,hb4⟩ : ∃ b,(q == 4) = b:=⟨_,rfl⟩
 obtain ⟨b3,hb3⟩ : ∃ b,(q == 3) = b:=⟨_,rfl⟩
 obtain ⟨x4,y4⟩:=e4 b4 hb4
 obtain ⟨x3,y3⟩:=e3 b3 hb3
 clear e4 e3
 unfold bndO at hr
 rw [show (q != 4) = !b4 by rw [bne,hb4],show (q != 3) = !b3 by rw [bne,hb3]] at hr
 by_cases h2 : op = 2
 ·subst h2
  rw [if_pos rfl] at hr
  clear hb4 hb3 x4 x3 y3
  cases b4 <;> subst hr <;> (
   go_enter Tryz.func142,Tryz.ntmps142
   go_wp2
   go_ret
   exact ⟨rfl,rfl⟩)
 ·rw [if_neg h2] at hr
  by_cases h4 : op = 4
  ·subst h4
   rw [if_pos rfl] at hr
   clear hb4 hb3 x4 x3 y3
   cases b4 <;> cases sec <;> subst hr <;> (
    go_enter Tryz.func142,Tryz.ntmps142
    go_wp2
    go_ret
    exact ⟨rfl,rfl⟩)
  ·rw [if_neg h4] at hr
   by_cases h3 : op = 3
   ·subst h3
    rw [if_pos rfl] at hr
    clear hb4 hb3 x4 x3
    cases b4 <;> cases b3 <;> cases sec <;> subst hr <;> (
     go_enter Tryz.func142,Tryz.ntmps142
     go_wp2
     go_ret
     exact ⟨rfl,rfl⟩)
   ·rw [if_neg h3] at hr
    subst hr
    have z2 : ((op : Int) == 2) = false:=by rw [beq_eq_false_iff_ne];omega
    have z4 : ((op : Int) == 4) = false:=by rw [beq_eq_false_iff_ne];omega
    have z3 : ((op : Int) == 3) = false:=by rw [beq_eq_false_iff_ne];omega
    clear hb4 hb3 x4 x3 y3 y4 h2 h3 h4
    go_enter Tryz.func142,Tryz.ntmps142
    go_wp2
    go_ret
    exact ⟨rfl,rfl⟩
set_option linter.unusedVariables false
theorem textC_len (c : Cls) : (textC c).length ≤ 3000 ∧ 0 < (textC c).length:=by
 obtain ⟨x,t,h,_⟩:=textC_first (c:=c)
 refine ⟨?_,by rw [h];simp⟩
 unfold textC
 split
 ·have:=byteT_len (least c 0);omega
 ·split
  ·simp
  ·have:=runsT_len c 0
   simp
   omega
theorem wrapT_len (b : Bool) (x : List UInt8) : (wrapT b x).length ≤ x.length + 2:=by
 unfold wrapT
 split <;> simp
theorem textT_len (t : Rx) : (textT t).length ≤ 3010 * (flat t).length:=by
 induction t with
 | byte c => rw [textT];have:=(textC_len c).1;simp [flat];omega
 | empty => simp [textT]
 | bgn => simp [textT,flat]
 | fin => simp [textT,flat]
 | cat a b iha ihb =>
   rw [textT,List.length_append]
   have h1:=wrapT_len (bnd 3 false a) (textT a)
   have h2:=wrapT_len (bnd 3 true b) (textT b)
   simp [flat];omega
 | alt a b iha ihb =>
   rw [textT,List.length_append,List.length_cons]
   have h1:=wrapT_len (bnd 4 false a) (textT a)
   have h2:=wrapT_len (bnd 4 true b) (textT b)
   simp [flat];omega
 | star a ih => rw [textT,List.length_append];have h1:=wrapT_len (bnd 5 false a) (textT a);simp [flat];omega
 | plus a ih => rw [textT,List.length_append];have h1:=wrapT_len (bnd 6 false a) (textT a);simp [flat];omega
 | opt a ih => rw [textT,List.length_append];have h1:=wrapT_len (bnd 7 false a) (textT a);simp [flat];omega
theorem op_at {l : List Nd} {i : Nat} {u : Rx} (h : At l i u) : ∃ c,l[i]? = some ⟨(opT u : Int),c⟩:=by
 cases u with
 | byte c => exact ⟨_,h.byte⟩
 | empty => exact ⟨_,h.empty⟩
 | cat a b => exact ⟨_,h.cat.1⟩
 | alt a b => exact ⟨_,h.alt.1⟩
 | star a => exact ⟨_,h.star.1⟩
 | plus a => exact ⟨_,h.plus.1⟩
 | opt a => exact ⟨_,h.opt.1⟩
 | bgn => exact ⟨_,h.bgn⟩
 | fin => exact ⟨_,h.fin⟩
structure PE (B : Nat) (rv : Value) (l : List Nd) (w : World) : Prop where
 len : l.length ≤ 60
 okc : ∀ n ∈ l,okC n.cls
 row : ∃ nb off cap,rv = .slice (some ⟨nb,off,none⟩) l.length cap ∧ ∀ W,Below B w W → ∀ k n,l[k]? = some n →
  W.cell? ⟨nb,off + k * 5,none⟩ = some (.int .i64 n.op) ∧ W.cell? ⟨nb,off + k * 5 + 1,none⟩ = some (.int .u64 (n.cls.1 : Int)) ∧ W.cell? ⟨nb,off + k * 5 + 2,none⟩ = some (.int .u64 (n.cls.2.1 : Int)) ∧
  W.cell? ⟨nb,off + k * 5 + 3,none⟩ = some (.int .u64 (n.cls.2.2.1 : Int)) ∧ W.cell? ⟨nb,off + k * 5 + 4,none⟩ = some (.int .u64 (n.cls.2.2.2 : Int))
theorem PE.below {B : Nat} {rv : Value} {l : List Nd} {w w' : World} (h : PE B rv l w) (hb : Below B w w') : PE B rv l w':=by
 obtain ⟨h1,h2,nb,off,cap,h3,h4⟩:=h
 exact ⟨h1,h2,nb,off,cap,h3,fun W hW => h4 W (hb.trans hW)⟩
def PenIs (B b : Nat) (rv : Value) (k : Nat) (l : List UInt8) (w : World) (e : Ending) (w' : World) : Prop :=
 e = .returned (.tuple #[]) ∧ ∃ p' v',IsP b p' ∧ Wr B b p' rv k l v' w' ∧ WK B b w w'
def WritesAt (B b : Nat) (rv : Value) (l : List Nd) (u : Rx) (i : Nat) : Prop :=
 ∀ (p v : Value) (acc : List UInt8) (w : World),PE B rv l w → IsP b p → Wr B b p rv i acc v w → acc.length + 3010 * (flat u).length ≤ 1000000 →
  Calls Tryz.prog 72 #[.pointer (some ⟨b,0,none⟩)] w (PenIs B b rv (i + (flat u).length) (acc ++ textT u) w)
def PartsAt (B b : Nat) (rv : Value) (l : List Nd) (u : Rx) (i : Nat) : Prop :=
 ∀ (q : Nat) (sec : Bool) (p v : Value) (acc : List UInt8) (w : World),PE B rv l w → IsP b p → Wr B b p rv i acc v w → acc.length + 3010 * (flat u).length + 2 ≤ 1000000 →
  Calls Tryz.prog 106 #[.pointer (some ⟨b,0,none⟩),.int .i64 (q : Int),.bool sec] w (PenIs B b rv (i + (flat u).length) (acc ++ wrapT (bnd q sec u) (textT u)) w)
theorem parts_of {B b : Nat} {rv : Value} {l : List Nd} {u : Rx} {i : Nat} (hu : At l i u) (hw : WritesAt B b rv l u i) : PartsAt B b rv l u i:=by
 intro q sec p v acc w hpe hp hwr hlen
 obtain ⟨c,hop⟩:=op_at hu
 have hil : i < l.length:=(List.getElem?_eq_some_iff.1 hop).1
 have hl60:=hpe.len
 have HPE:=hid hpe
 obtain ⟨_,_,nb,off,cap,rfl,hrow⟩:=hpe
 have HW:=hid hw
 have HR:=hid hwr
 have HP:=hid hp
 obtain ⟨op,hopv⟩ : ∃ op,op = opT u:=⟨_,rfl⟩
 rw [← hopv] at hop
 have hBw : B ≤ w.heap.size:=by have:=hwr.hB;have:=hwr.lt;omega
 have HS : Hid (∀ w',Below w.heap.size w w' → w'.cell? ⟨b,2,none⟩ = some (.slice (some ⟨nb,off,none⟩) l.length cap) ∧ w'.cell? ⟨b,3,none⟩ = some (.int .i64 (i : Int)) ∧ w'.cell? ⟨nb,off + i * 5,none⟩ = some (.int .i64 (op : Int)) ∧ Below w.heap.size w w'):=hid fun w' hb =>
  ⟨(hwr.blk.kept hb).cell 2,(hwr.blk.kept hb).cell 3,(hrow w' (hb.mono hBw) i _ hop).1,hb⟩
 have hbd : bnd q sec u = bndO q op sec:=by rw [hopv];exact bnd_op q sec u
 have HB0 : Below w.heap.size w w.drew:=(Below.refl _ _).drew
 have k0 : (0 : Int) ≤ (i : Int):=by omega
 have k1 : (i : Int) < (l.length : Int):=by omega
 unfold PenIs
 unfold WritesAt PenIs at HW
 obtain ⟨r,hr⟩ : ∃ r,r = bndO q op sec:=⟨_,rfl⟩
 rw [hbd,← hr]
 have HBD:=hid fun W => bound_c q op sec r hr W
 have htl:=textT_len u
 clear hop hrow hw hwr hp hopv hbd hr hu hl60 hil
 cases r with
 | false =>
   rw [show wrapT false (textT u) = textT u from rfl]
   go_enter_defers Tryz.func106,Tryz.ntmps106
   go_wp2_with fail
   go_region_held3 (fun w' => w'.cell? ⟨b,2,none⟩ = some (.slice (some ⟨nb,off,none⟩) l.length cap) ∧ w'.cell? ⟨b,3,none⟩ = some (.int .i64 (i : Int)) ∧ w'.cell? ⟨nb,off + i * 5,none⟩ = some (.int .i64 (op : Int)) ∧ Below w.heap.size w w')
    (exact HS.out _ (by assumption))
    (first | (go_at_call 142;refine (HBD.out _).mono ?_;rintro e w2 ⟨rfl,rfl⟩))
   have HPE0:=hid (HPE.out.below (HB0.mono hBw))
   have HR0:=hid (HR.out.below HB0)
   have HK0:=hid (WK.of_below (b:=b) hBw HB0)
   clear HS HBD
   go_wp2_with fail
   refine (HW.out p v acc _ HPE0.out HP.out HR0.out (by omega)).mono ?_
   rintro e w3 ⟨rfl,p3,v3,hp3,hw3,hk3⟩
   have H3:=hid (show ∃ p' v',IsP b p' ∧ Wr B b p' (.slice (some ⟨nb,off,none⟩) l.length cap) (i + (flat u).length) (acc ++ textT u) v' w3 ∧ WK B b w w3 from ⟨p3,v3,hp3,hw3,HK0.out.trans hk3⟩)
   clear hp3 hw3 hk3
   go_wp2_with fail
   refine ⟨.tuple #[],?_,rfl,H3.out⟩
   simp [results,Tryz.results106]
 | true =>
   go_enter_defers Tryz.func106,Tryz.ntmps106
   go_wp2_with fail
   go_region_held3 (fun w' => w'.cell? ⟨b,2,none⟩ = some (.slice (some ⟨nb,off,none⟩) l.length cap) ∧ w'.cell? ⟨b,3,none⟩ = some (.int .i64 (i : Int)) ∧ w'.cell? ⟨nb,off + i * 5,none⟩ = some (.int .i64 (op : Int)) ∧ Below w.heap.size w w')
    (exact HS.out _ (by assumption))
    (first | (go_at_call 142;refine (HBD.out _).mono ?_;rintro e w2 ⟨rfl,rfl⟩))
   have HPE0:=hid (HPE.out.below (HB0.mono hBw))
   have HR0:=hid (HR.out.below HB0)
   have HK0:=hid (WK.of_below (b:=b) hBw HB0)
   have HBY:=hid (emb_byte B b i 40 (by decide) p _ v acc _ HR0.out HP.out (by omega))
   unfold WroteIs at HBY
   clear HS HBD
   go_wp2_with fail
   refine HBY.out.mono ?_
   rintro e w2 ⟨rfl,v2,hw2,hk2⟩
   have HW2:=hid (HW.out (.pointer (some ⟨b,0,none⟩)) v2 (acc ++ [40]) w2 (HPE0.out.below hk2.bel) (.inr rfl) hw2 (by rw [List.length_append];simp;omega))
   have HK2:=hid (HK0.out.trans hk2)
   clear hw2 hk2 HBY HPE0 HR0 HK0
   go_wp2_with fail
   refine HW2.out.mono ?_
   rintro e w3 ⟨rfl,p3,v3,hp3,hw3,hk3⟩
   have H3:=hid hw3
   have HP3:=hid hp3
   have HK3:=hid (HK2.out.trans hk3)
   clear hp3 hw3 hk3 HW2
   go_wp2_with fail
   refine leaves_cons (f:=105) (args:=#[.pointer (some ⟨b,0,none⟩),.int .u8 41]) (by simp) (by simp [go_sem]) ?_
   refine (emb_byteD B b (i + (flat u).length) 41 (by decide) p3 _ v3 _ w3 _ H3.out HP3.out (by simp only [List.length_append];simp;omega)).mono ?_
   rintro e u' w4 ⟨rfl,rfl,v4,hw4,hk4⟩
   have H4:=hid (show ∃ p' v',IsP b p' ∧ Wr B b p' (.slice (some ⟨nb,off,none⟩) l.length cap) (i + (flat u).length) (acc ++ wrapT true (textT u)) v' w4 ∧ WK B b w w4 from ⟨_,v4,.inr rfl,by
    have e : acc ++ wrapT true (textT u) = acc ++ [40] ++ textT u ++ [UInt8.ofNat 41]:=by simp [wrapT]
    rw [e]
    exact hw4,HK3.out.trans hk4⟩)
   clear hw4 hk4
   refine ⟨.tuple #[],?_,rfl,H4.out⟩
   simp [results,Tryz.results106]
theorem wrapT_ge (b : Bool) (x : List UInt8) : x.length ≤ (wrapT b x).length:=by
 unfold wrapT
 split
 ·simp;omega
 ·exact Nat.le_refl _
theorem writes_c {B b : Nat} {rv : Value} {l : List Nd} : ∀ (u : Rx) (i : Nat),At l i u → WritesAt B b rv l u i:=by
 intro u
 induction u with
 | bgn =>
   intro i hu
   intro p v acc w hpe hp hwr hlen
   have hnd:=hu.bgn
   obtain ⟨c0,c1,c2,c3,hz⟩ : ∃ c0 c1 c2 c3 : Nat,(c0,c1,c2,c3) = zc:=⟨_,_,_,_,rfl⟩
   rw [← hz] at hnd
   clear hz
   have hil : i < l.length:=(List.getElem?_eq_some_iff.1 hnd).1
   have hl60:=hpe.len
   have HPE:=hid hpe
   have HR:=hid hwr
   have hBw : B ≤ w.heap.size:=by have:=hwr.hB;have:=hwr.lt;omega
   have HP:=hid hp
   obtain ⟨_,hokc,nb,off,cap,rfl,hrow⟩:=hpe
   obtain ⟨n0,n1,n2,n3,n4⟩:=hrow w (Below.refl _ _) i _ hnd
   have HOK:=hid (hokc _ (List.mem_of_getElem? hnd))
   have r2 : w.cell? ⟨b,2,none⟩ = some (.slice (some ⟨nb,off,none⟩) l.length cap):=hwr.blk.cell 2
   have r3 : w.cell? ⟨b,3,none⟩ = some (.int .i64 (i : Int)):=hwr.blk.cell 3
   have z3 : w.frozen? ⟨b,3,none⟩ = false:=hwr.blk.frozen 3
   have hlt:=hwr.lt
   have hnlt : nb < w.heap.size:=World.block_lt_of_cell? w _ n0
   have k0 : (0 : Int) ≤ (i : Int):=by omega
   have k1 : (i : Int) < (l.length : Int):=by omega
   have hbs : w.heap.size ≠ b:=by omega
   have hws : (w.setCell ⟨b,3,none⟩ (.int .i64 ((i : Int) + 1))).heap.size = w.heap.size:=by simp
   have hba : Below (w.setCell ⟨b,3,none⟩ (.int .i64 ((i : Int) + 1))).heap.size (w.setCell ⟨b,3,none⟩ (.int .i64 ((i : Int) + 1))) ((w.setCell ⟨b,3,none⟩ (.int .i64 ((i : Int) + 1))).alloc (.cells #[.int .i64 8,.int .u64 (c0 : Int),.int .u64 (c1 : Int),.int .u64 (c2 : Int),.int .u64 (c3 : Int)] 114)).drew:=((Below.refl _ _).alloc (Nat.le_refl _) _).drew
   have HN2 : Hid (Blk ((w.setCell ⟨b,3,none⟩ (.int .i64 ((i : Int) + 1))).alloc (.cells #[.int .i64 8,.int .u64 (c0 : Int),.int .u64 (c1 : Int),.int .u64 (c2 : Int),.int .u64 (c3 : Int)] 114)).drew w.heap.size 114 #[.int .i64 8,.int .u64 (c0 : Int),.int .u64 (c1 : Int),.int .u64 (c2 : Int),.int .u64 (c3 : Int)]):=hid (by
    have:=(Blk.new (w.setCell ⟨b,3,none⟩ (.int .i64 ((i : Int) + 1))) 114 #[.int .i64 8,.int .u64 (c0 : Int),.int .u64 (c1 : Int),.int .u64 (c2 : Int),.int .u64 (c3 : Int)]).drew
    rw [hws] at this
    exact this)
   have HW2 : Hid (Wr B b p (.slice (some ⟨nb,off,none⟩) l.length cap) (i + 1) acc v ((w.setCell ⟨b,3,none⟩ (.int .i64 ((i : Int) + 1))).alloc (.cells #[.int .i64 8,.int .u64 (c0 : Int),.int .u64 (c1 : Int),.int .u64 (c2 : Int),.int .u64 (c3 : Int)] 114)).drew):=hid (by
    have:=hwr.set3 (i + 1)
    rw [show ((i + 1 : Nat) : Int) = (i : Int) + 1 by omega] at this
    exact this.below hba)
   have HK2 : Hid (WK B b w ((w.setCell ⟨b,3,none⟩ (.int .i64 ((i : Int) + 1))).alloc (.cells #[.int .i64 8,.int .u64 (c0 : Int),.int .u64 (c1 : Int),.int .u64 (c2 : Int),.int .u64 (c3 : Int)] 114)).drew):=hid ((WK.set hwr.hB w 3 _).trans (WK.of_below (by rw [hws];exact hBw) hba))
   have h2s : w.heap.size < ((w.setCell ⟨b,3,none⟩ (.int .i64 ((i : Int) + 1))).alloc (.cells #[.int .i64 8,.int .u64 (c0 : Int),.int .u64 (c1 : Int),.int .u64 (c2 : Int),.int .u64 (c3 : Int)] 114)).drew.heap.size:=HN2.out.lt
   unfold PenIs
   clear hnd hil hrow hokc hwr hp hba hws
   go_enter Tryz.func72,Tryz.ntmps72
   go_wp2_with fail
   go_region
   go_wp2_with fail
   generalize hw2 : ((w.setCell ⟨b,3,none⟩ (.int .i64 ((i : Int) + 1))).alloc (.cells #[.int .i64 8,.int .u64 (c0 : Int),.int .u64 (c1 : Int),.int .u64 (c2 : Int),.int .u64 (c3 : Int)] 114)).drew = w2 at *
   clear hw2
   have b0 : w2.cell? ⟨w.heap.size,0,none⟩ = some (.int .i64 8):=HN2.out.cell 0
   refine (emb_byte B b (i + 1) 94 (by decide) p _ v acc w2 HW2.out HP.out (by omega)).mono ?_
   rintro e w3 ⟨rfl,v3,hw3,hk3⟩
   have H3:=hid (show ∃ p' v',IsP b p' ∧ Wr B b p' (.slice (some ⟨nb,off,none⟩) l.length cap) (i + (flat .bgn).length) (acc ++ textT .bgn) v' w3 ∧ WK B b w w3 from ⟨_,v3,.inr rfl,by rw [textT];exact hw3,HK2.out.trans hk3⟩)
   clear hw3 hk3
   go_wp2_with fail
   go_end0
   exact ⟨rfl,H3.out⟩
 | fin =>
   intro i hu
   intro p v acc w hpe hp hwr hlen
   have hnd:=hu.fin
   obtain ⟨c0,c1,c2,c3,hz⟩ : ∃ c0 c1 c2 c3 : Nat,(c0,c1,c2,c3) = zc:=⟨_,_,_,_,rfl⟩
   rw [← hz] at hnd
   clear hz
   have hil : i < l.length:=(List.getElem?_eq_some_iff.1 hnd).1
   have hl60:=hpe.len
   have HPE:=hid hpe
   have HR:=hid hwr
   have hBw : B ≤ w.heap.size:=by have:=hwr.hB;have:=hwr.lt;omega
   have HP:=hid hp
   obtain ⟨_,hokc,nb,off,cap,rfl,hrow⟩:=hpe
   obtain ⟨n0,n1,n2,n3,n4⟩:=hrow w (Below.refl _ _) i _ hnd
   have HOK:=hid (hokc _ (List.mem_of_getElem? hnd))
   have r2 : w.cell? ⟨b,2,none⟩ = some (.slice (some ⟨nb,off,none⟩) l.length cap):=hwr.blk.cell 2
   have r3 : w.cell? ⟨b,3,none⟩ = some (.int .i64 (i : Int)):=hwr.blk.cell 3
   have z3 : w.frozen? ⟨b,3,none⟩ = false:=hwr.blk.frozen 3
   have hlt:=hwr.lt
   have hnlt : nb < w.heap.size:=World.block_lt_of_cell? w _ n0
   have k0 : (0 : Int) ≤ (i : Int):=by omega
   have k1 : (i : Int) < (l.length : Int):=by omega
   have hbs : w.heap.size ≠ b:=by omega
   have hws : (w.setCell ⟨b,3,none⟩ (.int .i64 ((i : Int) + 1))).heap.size = w.heap.size:=by simp
   have hba : Below (w.setCell ⟨b,3,none⟩ (.int .i64 ((i : Int) + 1))).heap.size (w.setCell ⟨b,3,none⟩ (.int .i64 ((i : Int) + 1))) ((w.setCell ⟨b,3,none⟩ (.int .i64 ((i : Int) + 1))).alloc (.cells #[.int .i64 9,.int .u64 (c0 : Int),.int .u64 (c1 : Int),.int .u64 (c2 : Int),.int .u64 (c3 : Int)] 114)).drew:=((Below.refl _ _).alloc (Nat.le_refl _) _).drew
   have HN2 : Hid (Blk ((w.setCell ⟨b,3,none⟩ (.int .i64 ((i : Int) + 1))).alloc (.cells #[.int .i64 9,.int .u64 (c0 : Int),.int .u64 (c1 : Int),.int .u64 (c2 : Int),.int .u64 (c3 : Int)] 114)).drew w.heap.size 114 #[.int .i64 9,.int .u64 (c0 : Int),.int .u64 (c1 : Int),.int .u64 (c2 : Int),.int .u64 (c3 : Int)]):=hid (by
    have:=(Blk.new (w.setCell ⟨b,3,none⟩ (.int .i64 ((i : Int) + 1))) 114 #[.int .i64 9,.int .u64 (c0 : Int),.int .u64 (c1 : Int),.int .u64 (c2 : Int),.int .u64 (c3 : Int)]).drew
    rw [hws] at this
    exact this)
   have HW2 : Hid (Wr B b p (.slice (some ⟨nb,off,none⟩) l.length cap) (i + 1) acc v ((w.setCell ⟨b,3,none⟩ (.int .i64 ((i : Int) + 1))).alloc (.cells #[.int .i64 9,.int .u64 (c0 : Int),.int .u64 (c1 : Int),.int .u64 (c2 : Int),.int .u64 (c3 : Int)] 114)).drew):=hid (by
    have:=hwr.set3 (i + 1)
    rw [show ((i + 1 : Nat) : Int) = (i : Int) + 1 by omega] at this
    exact this.below hba)
   have HK2 : Hid (WK B b w ((w.setCell ⟨b,3,none⟩ (.int .i64 ((i : Int) + 1))).alloc (.cells #[.int .i64 9,.int .u64 (c0 : Int),.int .u64 (c1 : Int),.int .u64 (c2 : Int),.int .u64 (c3 : Int)] 114)).drew):=hid ((WK.set hwr.hB w 3 _).trans (WK.of_below (by rw [hws];exact hBw) hba))
   have h2s : w.heap.size < ((w.setCell ⟨b,3,none⟩ (.int .i64 ((i : Int) + 1))).alloc (.cells #[.int .i64 9,.int .u64 (c0 : Int),.int .u64 (c1 : Int),.int .u64 (c2 : Int),.int .u64 (c3 : Int)] 114)).drew.heap.size:=HN2.out.lt
   unfold PenIs
   clear hnd hil hrow hokc hwr hp hba hws
   go_enter Tryz.func72,Tryz.ntmps72
   go_wp2_with fail
   go_region
   go_wp2_with fail
   generalize hw2 : ((w.setCell ⟨b,3,none⟩ (.int .i64 ((i : Int) + 1))).alloc (.cells #[.int .i64 9,.int .u64 (c0 : Int),.int .u64 (c1 : Int),.int .u64 (c2 : Int),.int .u64 (c3 : Int)] 114)).drew = w2 at *
   clear hw2
   have b0 : w2.cell? ⟨w.heap.size,0,none⟩ = some (.int .i64 9):=HN2.out.cell 0
   refine (emb_byte B b (i + 1) 36 (by decide) p _ v acc w2 HW2.out HP.out (by omega)).mono ?_
   rintro e w3 ⟨rfl,v3,hw3,hk3⟩
   have H3:=hid (show ∃ p' v',IsP b p' ∧ Wr B b p' (.slice (some ⟨nb,off,none⟩) l.length cap) (i + (flat .fin).length) (acc ++ textT .fin) v' w3 ∧ WK B b w w3 from ⟨_,v3,.inr rfl,by rw [textT];exact hw3,HK2.out.trans hk3⟩)
   clear hw3 hk3
   go_wp2_with fail
   go_end0
   exact ⟨rfl,H3.out⟩
 | empty =>
   intro i hu
   intro p v acc w hpe hp hwr hlen
   have hnd:=hu.empty
   obtain ⟨c0,c1,c2,c3,hz⟩ : ∃ c0 c1 c2 c3 : Nat,(c0,c1,c2,c3) = zc:=⟨_,_,_,_,rfl⟩
   rw [← hz] at hnd
   clear hz
   have hil : i < l.length:=(List.getElem?_eq_some_iff.1 hnd).1
   have hl60:=hpe.len
   have HPE:=hid hpe
   have HR:=hid hwr
   have hBw : B ≤ w.heap.size:=by have:=hwr.hB;have:=hwr.lt;omega
   have HP:=hid hp
   obtain ⟨_,hokc,nb,off,cap,rfl,hrow⟩:=hpe
   obtain ⟨n0,n1,n2,n3,n4⟩:=hrow w (Below.refl _ _) i _ hnd
   have HOK:=hid (hokc _ (List.mem_of_getElem? hnd))
   have r2 : w.cell? ⟨b,2,none⟩ = some (.slice (some ⟨nb,off,none⟩) l.length cap):=hwr.blk.cell 2
   have r3 : w.cell? ⟨b,3,none⟩ = some (.int .i64 (i : Int)):=hwr.blk.cell 3
   have z3 : w.frozen? ⟨b,3,none⟩ = false:=hwr.blk.frozen 3
   have hlt:=hwr.lt
   have hnlt : nb < w.heap.size:=World.block_lt_of_cell? w _ n0
   have k0 : (0 : Int) ≤ (i : Int):=by omega
   have k1 : (i : Int) < (l.length : Int):=by omega
   have hbs : w.heap.size ≠ b:=by omega
   have hws : (w.setCell ⟨b,3,none⟩ (.int .i64 ((i : Int) + 1))).heap.size = w.heap.size:=by simp
   have hba : Below (w.setCell ⟨b,3,none⟩ (.int .i64 ((i : Int) + 1))).heap.size (w.setCell ⟨b,3,none⟩ (.int .i64 ((i : Int) + 1))) ((w.setCell ⟨b,3,none⟩ (.int .i64 ((i : Int) + 1))).alloc (.cells #[.int .i64 2,.int .u64 (c0 : Int),.int .u64 (c1 : Int),.int .u64 (c2 : Int),.int .u64 (c3 : Int)] 114)).drew:=((Below.refl _ _).alloc (Nat.le_refl _) _).drew
   have HN2 : Hid (Blk ((w.setCell ⟨b,3,none⟩ (.int .i64 ((i : Int) + 1))).alloc (.cells #[.int .i64 2,.int .u64 (c0 : Int),.int .u64 (c1 : Int),.int .u64 (c2 : Int),.int .u64 (c3 : Int)] 114)).drew w.heap.size 114 #[.int .i64 2,.int .u64 (c0 : Int),.int .u64 (c1 : Int),.int .u64 (c2 : Int),.int .u64 (c3 : Int)]):=hid (by
    have:=(Blk.new (w.setCell ⟨b,3,none⟩ (.int .i64 ((i : Int) + 1))) 114 #[.int .i64 2,.int .u64 (c0 : Int),.int .u64 (c1 : Int),.int .u64 (c2 : Int),.int .u64 (c3 : Int)]).drew
    rw [hws] at this
    exact this)
   have HW2 : Hid (Wr B b p (.slice (some ⟨nb,off,none⟩) l.length cap) (i + 1) acc v ((w.setCell ⟨b,3,none⟩ (.int .i64 ((i : Int) + 1))).alloc (.cells #[.int .i64 2,.int .u64 (c0 : Int),.int .u64 (c1 : Int),.int .u64 (c2 : Int),.int .u64 (c3 : Int)] 114)).drew):=hid (by
    have:=hwr.set3 (i + 1)
    rw [show ((i + 1 : Nat) : Int) = (i : Int) + 1 by omega] at this
    exact this.below hba)
   have HK2 : Hid (WK B b w ((w.setCell ⟨b,3,none⟩ (.int .i64 ((i : Int) + 1))).alloc (.cells #[.int .i64 2,.int .u64 (c0 : Int),.int .u64 (c1 : Int),.int .u64 (c2 : Int),.int .u64 (c3 : Int)] 114)).drew):=hid ((WK.set hwr.hB w 3 _).trans (WK.of_below (by rw [hws];exact hBw) hba))
   have h2s : w.heap.size < ((w.setCell ⟨b,3,none⟩ (.int .i64 ((i : Int) + 1))).alloc (.cells #[.int .i64 2,.int .u64 (c0 : Int),.int .u64 (c1 : Int),.int .u64 (c2 : Int),.int .u64 (c3 : Int)] 114)).drew.heap.size:=HN2.out.lt
   unfold PenIs
   clear hnd hil hrow hokc hwr hp hba hws
   go_enter Tryz.func72,Tryz.ntmps72
   go_wp2_with fail
   go_region
   go_wp2_with fail
   generalize hw2 : ((w.setCell ⟨b,3,none⟩ (.int .i64 ((i : Int) + 1))).alloc (.cells #[.int .i64 2,.int .u64 (c0 : Int),.int .u64 (c1 : Int),.int .u64 (c2 : Int),.int .u64 (c3 : Int)] 114)).drew = w2 at *
   clear hw2
   have b0 : w2.cell? ⟨w.heap.size,0,none⟩ = some (.int .i64 2):=HN2.out.cell 0
   have H3:=hid (show ∃ p' v',IsP b p' ∧ Wr B b p' (.slice (some ⟨nb,off,none⟩) l.length cap) (i + (flat .empty).length) (acc ++ textT .empty) v' w2 ∧ WK B b w w2 from ⟨p,v,HP.out,by rw [textT,List.append_nil];exact HW2.out,HK2.out⟩)
   go_end0
   exact ⟨rfl,H3.out⟩
 | byte c =>
   intro i hu
   obtain ⟨c0,c1,c2,c3⟩:=c
   intro p v acc w hpe hp hwr hlen
   have hnd:=hu.byte
   have hil : i < l.length:=(List.getElem?_eq_some_iff.1 hnd).1
   have hl60:=hpe.len
   have HPE:=hid hpe
   have HR:=hid hwr
   have hBw : B ≤ w.heap.size:=by have:=hwr.hB;have:=hwr.lt;omega
   have HP:=hid hp
   obtain ⟨_,hokc,nb,off,cap,rfl,hrow⟩:=hpe
   obtain ⟨n0,n1,n2,n3,n4⟩:=hrow w (Below.refl _ _) i _ hnd
   have HOK:=hid (hokc _ (List.mem_of_getElem? hnd))
   have r2 : w.cell? ⟨b,2,none⟩ = some (.slice (some ⟨nb,off,none⟩) l.length cap):=hwr.blk.cell 2
   have r3 : w.cell? ⟨b,3,none⟩ = some (.int .i64 (i : Int)):=hwr.blk.cell 3
   have z3 : w.frozen? ⟨b,3,none⟩ = false:=hwr.blk.frozen 3
   have hlt:=hwr.lt
   have hnlt : nb < w.heap.size:=World.block_lt_of_cell? w _ n0
   have k0 : (0 : Int) ≤ (i : Int):=by omega
   have k1 : (i : Int) < (l.length : Int):=by omega
   have hbs : w.heap.size ≠ b:=by omega
   have hws : (w.setCell ⟨b,3,none⟩ (.int .i64 ((i : Int) + 1))).heap.size = w.heap.size:=by simp
   have hba : Below (w.setCell ⟨b,3,none⟩ (.int .i64 ((i : Int) + 1))).heap.size (w.setCell ⟨b,3,none⟩ (.int .i64 ((i : Int) + 1))) ((w.setCell ⟨b,3,none⟩ (.int .i64 ((i : Int) + 1))).alloc (.cells #[.int .i64 1,.int .u64 (c0 : Int),.int .u64 (c1 : Int),.int .u64 (c2 : Int),.int .u64 (c3 : Int)] 114)).drew:=((Below.refl _ _).alloc (Nat.le_refl _) _).drew
   have HN2 : Hid (Blk ((w.setCell ⟨b,3,none⟩ (.int .i64 ((i : Int) + 1))).alloc (.cells #[.int .i64 1,.int .u64 (c0 : Int),.int .u64 (c1 : Int),.int .u64 (c2 : Int),.int .u64 (c3 : Int)] 114)).drew w.heap.size 114 #[.int .i64 1,.int .u64 (c0 : Int),.int .u64 (c1 : Int),.int .u64 (c2 : Int),.int .u64 (c3 : Int)]):=hid (by
    have:=(Blk.new (w.setCell ⟨b,3,none⟩ (.int .i64 ((i : Int) + 1))) 114 #[.int .i64 1,.int .u64 (c0 : Int),.int .u64 (c1 : Int),.int .u64 (c2 : Int),.int .u64 (c3 : Int)]).drew
    rw [hws] at this
    exact this)
   have HW2 : Hid (Wr B b p (.slice (some ⟨nb,off,none⟩) l.length cap) (i + 1) acc v ((w.setCell ⟨b,3,none⟩ (.int .i64 ((i : Int) + 1))).alloc (.cells #[.int .i64 1,.int .u64 (c0 : Int),.int .u64 (c1 : Int),.int .u64 (c2 : Int),.int .u64 (c3 : Int)] 114)).drew):=hid (by
    have:=hwr.set3 (i + 1)
    rw [show ((i + 1 : Nat) : Int) = (i : Int) + 1 by omega] at this
    exact this.below hba)
   have HK2 : Hid (WK B b w ((w.setCell ⟨b,3,none⟩ (.int .i64 ((i : Int) + 1))).alloc (.cells #[.int .i64 1,.int .u64 (c0 : Int),.int .u64 (c1 : Int),.int .u64 (c2 : Int),.int .u64 (c3 : Int)] 114)).drew):=hid ((WK.set hwr.hB w 3 _).trans (WK.of_below (by rw [hws];exact hBw) hba))
   have h2s : w.heap.size < ((w.setCell ⟨b,3,none⟩ (.int .i64 ((i : Int) + 1))).alloc (.cells #[.int .i64 1,.int .u64 (c0 : Int),.int .u64 (c1 : Int),.int .u64 (c2 : Int),.int .u64 (c3 : Int)] 114)).drew.heap.size:=HN2.out.lt
   unfold PenIs
   clear hnd hil hrow hokc hwr hp hba hws
   go_enter Tryz.func72,Tryz.ntmps72
   go_wp2_with fail
   go_region
   go_wp2_with fail
   generalize hw2 : ((w.setCell ⟨b,3,none⟩ (.int .i64 ((i : Int) + 1))).alloc (.cells #[.int .i64 1,.int .u64 (c0 : Int),.int .u64 (c1 : Int),.int .u64 (c2 : Int),.int .u64 (c3 : Int)] 114)).drew = w2 at *
   clear hw2
   have b0 : w2.cell? ⟨w.heap.size,0,none⟩ = some (.int .i64 1):=HN2.out.cell 0
   have HSA : Hid (∀ W,Hid (∃ p' v',IsP b p' ∧ Wr B b p' (.slice (some ⟨nb,off,none⟩) l.length cap) (i + 1) acc v' W ∧ WK B b w W ∧ Blk W w.heap.size 114 #[.int .i64 1,.int .u64 (c0 : Int),.int .u64 (c1 : Int),.int .u64 (c2 : Int),.int .u64 (c3 : Int)]) → (W.cell? ⟨w.heap.size,1,none⟩ = some (.int .u64 (c0 : Int)) ∧ W.cell? ⟨w.heap.size,2,none⟩ = some (.int .u64 (c1 : Int)) ∧ W.cell? ⟨w.heap.size,3,none⟩ = some (.int .u64 (c2 : Int)) ∧ W.cell? ⟨w.heap.size,4,none⟩ = some (.int .u64 (c3 : Int)))):=hid fun W h => by
    obtain ⟨_,_,_,_,_,h⟩:=h.out
    exact ⟨h.cell 1,h.cell 2,h.cell 3,h.cell 4⟩
   have HSC : Hid (∀ W,Hid (∃ p' v',IsP b p' ∧ Wr B b p' (.slice (some ⟨nb,off,none⟩) l.length cap) (i + 1) (acc ++ textC (c0,c1,c2,c3)) v' W ∧ WK B b w W ∧ Blk W w.heap.size 114 #[.int .i64 1,.int .u64 (c0 : Int),.int .u64 (c1 : Int),.int .u64 (c2 : Int),.int .u64 (c3 : Int)]) → (W.cell? ⟨w.heap.size,1,none⟩ = some (.int .u64 (c0 : Int)) ∧ W.cell? ⟨w.heap.size,2,none⟩ = some (.int .u64 (c1 : Int)) ∧ W.cell? ⟨w.heap.size,3,none⟩ = some (.int .u64 (c2 : Int)) ∧ W.cell? ⟨w.heap.size,4,none⟩ = some (.int .u64 (c3 : Int)))):=hid fun W h => by
    obtain ⟨_,_,_,_,_,h⟩:=h.out
    exact ⟨h.cell 1,h.cell 2,h.cell 3,h.cell 4⟩
   have HTX : Hid (∀ W,Hid (∃ p' v',IsP b p' ∧ Wr B b p' (.slice (some ⟨nb,off,none⟩) l.length cap) (i + 1) acc v' W ∧ WK B b w W ∧ Blk W w.heap.size 114 #[.int .i64 1,.int .u64 (c0 : Int),.int .u64 (c1 : Int),.int .u64 (c2 : Int),.int .u64 (c3 : Int)]) → Calls Tryz.prog 104 #[.agg #[.int .u64 (c0 : Int),.int .u64 (c1 : Int),.int .u64 (c2 : Int),.int .u64 (c3 : Int)]] W (fun e W' => ∃ s : ByteArray,e = .returned (.string s) ∧ Hid (s.data.toList = textC (c0,c1,c2,c3)) ∧ Hid (∃ p' v',IsP b p' ∧ Wr B b p' (.slice (some ⟨nb,off,none⟩) l.length cap) (i + 1) acc v' W' ∧ WK B b w W' ∧ Blk W' w.heap.size 114 #[.int .i64 1,.int .u64 (c0 : Int),.int .u64 (c1 : Int),.int .u64 (c2 : Int),.int .u64 (c3 : Int)]))):=hid fun W h => by
    obtain ⟨p',v',h1,h2,h3,h4⟩:=h.out
    refine (Text_any c0 c1 c2 c3 W HOK.out).mono ?_
    rintro e w' ⟨s,he,hs,hb⟩
    exact ⟨s,he,hid hs,hid ⟨p',v',h1,h2.below hb,h3.trans (WK.of_below (Nat.le_trans hBw h3.bel.size) hb),h4.kept hb⟩⟩
   have HWS : Hid (∀ W (s : ByteArray),Hid (∃ p' v',IsP b p' ∧ Wr B b p' (.slice (some ⟨nb,off,none⟩) l.length cap) (i + 1) acc v' W ∧ WK B b w W ∧ Blk W w.heap.size 114 #[.int .i64 1,.int .u64 (c0 : Int),.int .u64 (c1 : Int),.int .u64 (c2 : Int),.int .u64 (c3 : Int)]) → Hid (s.data.toList = textC (c0,c1,c2,c3)) → Calls Tryz.prog 9 #[.pointer (some ⟨b,0,none⟩),.string s] W (fun e W' => e = .returned (.tuple #[.int .i64 (s.size : Int),.nilIface]) ∧ Hid (∃ p' v',IsP b p' ∧ Wr B b p' (.slice (some ⟨nb,off,none⟩) l.length cap) (i + 1) (acc ++ textC (c0,c1,c2,c3)) v' W' ∧ WK B b w W' ∧ Blk W' w.heap.size 114 #[.int .i64 1,.int .u64 (c0 : Int),.int .u64 (c1 : Int),.int .u64 (c2 : Int),.int .u64 (c3 : Int)]))):=hid fun W s h hs => by
    obtain ⟨p',v',h1,h2,h3,h4⟩:=h.out
    have hsl:=textC_len (c0,c1,c2,c3)
    rw [← hs.out,show s.data.toList.length = s.size by simp] at hsl
    refine (emb_str B b (i + 1) s hsl.2 p' _ v' acc W h2 h1 (by omega)).mono ?_
    rintro e w' ⟨he,v3,hw3,hk3⟩
    rw [hs.out] at hw3
    exact ⟨he,hid ⟨_,v3,.inr rfl,hw3,h3.trans hk3,hk3.keep _ _ _ hbs (by decide) h4⟩⟩
   have HA2 : Hid (∃ p' v',IsP b p' ∧ Wr B b p' (.slice (some ⟨nb,off,none⟩) l.length cap) (i + 1) acc v' w2.drew ∧ WK B b w w2.drew ∧ Blk w2.drew w.heap.size 114 #[.int .i64 1,.int .u64 (c0 : Int),.int .u64 (c1 : Int),.int .u64 (c2 : Int),.int .u64 (c3 : Int)]):=hid ⟨p,v,HP.out,HW2.out.below ((Below.refl _ _).drew),HK2.out.trans (WK.of_below (by omega) ((Below.refl _ _).drew)),HN2.out.drew⟩
   go_region_held3 (fun W => (W.cell? ⟨w.heap.size,1,none⟩ = some (.int .u64 (c0 : Int)) ∧ W.cell? ⟨w.heap.size,2,none⟩ = some (.int .u64 (c1 : Int)) ∧ W.cell? ⟨w.heap.size,3,none⟩ = some (.int .u64 (c2 : Int)) ∧ W.cell? ⟨w.heap.size,4,none⟩ = some (.int .u64 (c3 : Int))))
    (first | exact HSA.out _ (by assumption) | exact HSC.out _ (by assumption))
    (first
      | (go_at_call 104;refine (HTX.out _ (by assumption)).mono ?_;rintro e w3 ⟨s3,rfl,hs3,hA3⟩)
      | (go_at_call 9;refine (HWS.out _ _ (by assumption) (by assumption)).mono ?_;rintro e w4 ⟨rfl,hC4⟩))
   have H3:=hid (show ∃ p' v',IsP b p' ∧ Wr B b p' (.slice (some ⟨nb,off,none⟩) l.length cap) (i + (flat (.byte (c0,c1,c2,c3))).length) (acc ++ textT (.byte (c0,c1,c2,c3))) v' w4 ∧ WK B b w w4 from by
    obtain ⟨p',v',h1,h2,h3,_⟩:=hC4.out
    exact ⟨p',v',h1,by rw [textT];exact h2,h3⟩)
   go_wp2_with fail
   go_end0
   exact ⟨rfl,H3.out⟩
 | cat x y ihx ihy =>
   intro i hu
   have hpx:=parts_of hu.cat.2.1 (ihx _ hu.cat.2.1)
   have hpy:=parts_of hu.cat.2.2 (ihy _ hu.cat.2.2)
   intro p v acc w hpe hp hwr hlen
   have hnd:=hu.cat.1
   obtain ⟨c0,c1,c2,c3,hz⟩ : ∃ c0 c1 c2 c3 : Nat,(c0,c1,c2,c3) = zc:=⟨_,_,_,_,rfl⟩
   rw [← hz] at hnd
   clear hz
   have hil : i < l.length:=(List.getElem?_eq_some_iff.1 hnd).1
   have hl60:=hpe.len
   have HPE:=hid hpe
   have HR:=hid hwr
   have hBw : B ≤ w.heap.size:=by have:=hwr.hB;have:=hwr.lt;omega
   have HP:=hid hp
   obtain ⟨_,hokc,nb,off,cap,rfl,hrow⟩:=hpe
   obtain ⟨n0,n1,n2,n3,n4⟩:=hrow w (Below.refl _ _) i _ hnd
   have HOK:=hid (hokc _ (List.mem_of_getElem? hnd))
   have r2 : w.cell? ⟨b,2,none⟩ = some (.slice (some ⟨nb,off,none⟩) l.length cap):=hwr.blk.cell 2
   have r3 : w.cell? ⟨b,3,none⟩ = some (.int .i64 (i : Int)):=hwr.blk.cell 3
   have z3 : w.frozen? ⟨b,3,none⟩ = false:=hwr.blk.frozen 3
   have hlt:=hwr.lt
   have hnlt : nb < w.heap.size:=World.block_lt_of_cell? w _ n0
   have k0 : (0 : Int) ≤ (i : Int):=by omega
   have k1 : (i : Int) < (l.length : Int):=by omega
   have hbs : w.heap.size ≠ b:=by omega
   have hws : (w.setCell ⟨b,3,none⟩ (.int .i64 ((i : Int) + 1))).heap.size = w.heap.size:=by simp
   have hba : Below (w.setCell ⟨b,3,none⟩ (.int .i64 ((i : Int) + 1))).heap.size (w.setCell ⟨b,3,none⟩ (.int .i64 ((i : Int) + 1))) ((w.setCell ⟨b,3,none⟩ (.int .i64 ((i : Int) + 1))).alloc (.cells #[.int .i64 3,.int .u64 (c0 : Int),.int .u64 (c1 : Int),.int .u64 (c2 : Int),.int .u64 (c3 : Int)] 114)).drew:=((Below.refl _ _).alloc (Nat.le_refl _) _).drew
   have HN2 : Hid (Blk ((w.setCell ⟨b,3,none⟩ (.int .i64 ((i : Int) + 1))).alloc (.cells #[.int .i64 3,.int .u64 (c0 : Int),.int .u64 (c1 : Int),.int .u64 (c2 : Int),.int .u64 (c3 : Int)] 114)).drew w.heap.size 114 #[.int .i64 3,.int .u64 (c0 : Int),.int .u64 (c1 : Int),.int .u64 (c2 : Int),.int .u64 (c3 : Int)]):=hid (by
    have:=(Blk.new (w.setCell ⟨b,3,none⟩ (.int .i64 ((i : Int) + 1))) 114 #[.int .i64 3,.int .u64 (c0 : Int),.int .u64 (c1 : Int),.int .u64 (c2 : Int),.int .u64 (c3 : Int)]).drew
    rw [hws] at this
    exact this)
   have HW2 : Hid (Wr B b p (.slice (some ⟨nb,off,none⟩) l.length cap) (i + 1) acc v ((w.setCell ⟨b,3,none⟩ (.int .i64 ((i : Int) + 1))).alloc (.cells #[.int .i64 3,.int .u64 (c0 : Int),.int .u64 (c1 : Int),.int .u64 (c2 : Int),.int .u64 (c3 : Int)] 114)).drew):=hid (by
    have:=hwr.set3 (i + 1)
    rw [show ((i + 1 : Nat) : Int) = (i : Int) + 1 by omega] at this
    exact this.below hba)
   have HK2 : Hid (WK B b w ((w.setCell ⟨b,3,none⟩ (.int .i64 ((i : Int) + 1))).alloc (.cells #[.int .i64 3,.int .u64 (c0 : Int),.int .u64 (c1 : Int),.int .u64 (c2 : Int),.int .u64 (c3 : Int)] 114)).drew):=hid ((WK.set hwr.hB w 3 _).trans (WK.of_below (by rw [hws];exact hBw) hba))
   have h2s : w.heap.size < ((w.setCell ⟨b,3,none⟩ (.int .i64 ((i : Int) + 1))).alloc (.cells #[.int .i64 3,.int .u64 (c0 : Int),.int .u64 (c1 : Int),.int .u64 (c2 : Int),.int .u64 (c3 : Int)] 114)).drew.heap.size:=HN2.out.lt
   unfold PenIs
   clear hnd hil hrow hokc hwr hp hba hws
   go_enter Tryz.func72,Tryz.ntmps72
   go_wp2_with fail
   go_region
   go_wp2_with fail
   generalize hw2 : ((w.setCell ⟨b,3,none⟩ (.int .i64 ((i : Int) + 1))).alloc (.cells #[.int .i64 3,.int .u64 (c0 : Int),.int .u64 (c1 : Int),.int .u64 (c2 : Int),.int .u64 (c3 : Int)] 114)).drew = w2 at *
   clear hw2
   have b0 : w2.cell? ⟨w.heap.size,0,none⟩ = some (.int .i64 3):=HN2.out.cell 0
   have hsplit : (flat (.cat x y)).length = 1 + (flat x).length + (flat y).length:=by simp [flat];omega
   have hx2:=textT_len x
   have hy2:=textT_len y
   have hwx:=wrapT_len (bnd 3 false x) (textT x)
   have hwx2:=wrapT_ge (bnd 3 false x) (textT x)
   have hb1 : acc.length + 3010 * (flat x).length + 2 ≤ 1000000:=by omega
   have hb2 : acc.length + (wrapT (bnd 3 false x) (textT x)).length + 1 + 3010 * (flat y).length + 2 ≤ 1000000:=by omega
   clear hsplit hx2 hy2 hwx hwx2 hlen
   have HPX : Hid (∀ (sec : Bool) (p v : Value) (acc : List UInt8) (W : World),PE B (.slice (some ⟨nb,off,none⟩) l.length cap) l W → IsP b p → Wr B b p (.slice (some ⟨nb,off,none⟩) l.length cap) (i + 1) acc v W → acc.length + 3010 * (flat x).length + 2 ≤ 1000000 → Calls Tryz.prog 106 #[.pointer (some ⟨b,0,none⟩),.int .i64 3,.bool sec] W (PenIs B b (.slice (some ⟨nb,off,none⟩) l.length cap) (i + 1 + (flat x).length) (acc ++ wrapT (bnd 3 sec x) (textT x)) W)):=hid fun sec p v acc W h1 h2 h3 h4 => hpx 3 sec p v acc W h1 h2 h3 h4
   unfold PenIs at HPX
   have HPY : Hid (∀ (sec : Bool) (p v : Value) (acc : List UInt8) (W : World),PE B (.slice (some ⟨nb,off,none⟩) l.length cap) l W → IsP b p → Wr B b p (.slice (some ⟨nb,off,none⟩) l.length cap) (i + 1 + (flat x).length) acc v W → acc.length + 3010 * (flat y).length + 2 ≤ 1000000 → Calls Tryz.prog 106 #[.pointer (some ⟨b,0,none⟩),.int .i64 3,.bool sec] W (PenIs B b (.slice (some ⟨nb,off,none⟩) l.length cap) (i + 1 + (flat x).length + (flat y).length) (acc ++ wrapT (bnd 3 sec y) (textT y)) W)):=hid fun sec p v acc W h1 h2 h3 h4 => hpy 3 sec p v acc W h1 h2 h3 h4
   unfold PenIs at HPY
   clear hpx hpy
   refine (HPX.out false p v acc w2 (HPE.out.below HK2.out.bel) HP.out HW2.out hb1).mono ?_
   rintro e w3 ⟨rfl,p3,v3,hp3,hw3,hk3⟩
   have HP3:=hid hp3
   have HW3:=hid hw3
   have HK3:=hid (HK2.out.trans hk3)
   have HN3:=hid (hk3.keep _ _ _ hbs (by decide) HN2.out)
   have q0 : w3.cell? ⟨w.heap.size,0,none⟩ = some (.int .i64 3):=HN3.out.cell 0
   clear hp3 hw3 hk3 HPX
   go_wp2_with fail
   refine (HPY.out true p3 v3 (acc ++ wrapT (bnd 3 false x) (textT x)) w3 (HPE.out.below HK3.out.bel) HP3.out HW3.out (by simp only [List.length_append,List.length_singleton];omega)).mono ?_
   rintro e w5 ⟨rfl,p5,v5,hp5,hw5,hk5⟩
   have H5:=hid (show ∃ p' v',IsP b p' ∧ Wr B b p' (.slice (some ⟨nb,off,none⟩) l.length cap) (i + (flat (.cat x y)).length) (acc ++ textT (.cat x y)) v' w5 ∧ WK B b w w5 from ⟨p5,v5,hp5,by
    have e1 : i + (flat (.cat x y)).length = i + 1 + (flat x).length + (flat y).length:=by simp [flat];omega
    have e2 : acc ++ textT (.cat x y) = (acc ++ wrapT (bnd 3 false x) (textT x)) ++ wrapT (bnd 3 true y) (textT y):=by rw [textT];simp
    rw [e1,e2]
    exact hw5,HK3.out.trans hk5⟩)
   clear hp5 hw5 hk5
   go_wp2_with fail
   go_end0
   exact ⟨rfl,H5.out⟩
 | alt x y ihx ihy =>
   intro i hu
   have hpx:=parts_of hu.alt.2.1 (ihx _ hu.alt.2.1)
   have hpy:=parts_of hu.alt.2.2 (ihy _ hu.alt.2.2)
   intro p v acc w hpe hp hwr hlen
   have hnd:=hu.alt.1
   obtain ⟨c0,c1,c2,c3,hz⟩ : ∃ c0 c1 c2 c3 : Nat,(c0,c1,c2,c3) = zc:=⟨_,_,_,_,rfl⟩
   rw [← hz] at hnd
   clear hz
   have hil : i < l.length:=(List.getElem?_eq_some_iff.1 hnd).1
   have hl60:=hpe.len
   have HPE:=hid hpe
   have HR:=hid hwr
   have hBw : B ≤ w.heap.size:=by have:=hwr.hB;have:=hwr.lt;omega
   have HP:=hid hp
   obtain ⟨_,hokc,nb,off,cap,rfl,hrow⟩:=hpe
   obtain ⟨n0,n1,n2,n3,n4⟩:=hrow w (Below.refl _ _) i _ hnd
   have HOK:=hid (hokc _ (List.mem_of_getElem? hnd))
   have r2 : w.cell? ⟨b,2,none⟩ = some (.slice (some ⟨nb,off,none⟩) l.length cap):=hwr.blk.cell 2
   have r3 : w.cell? ⟨b,3,none⟩ = some (.int .i64 (i : Int)):=hwr.blk.cell 3
   have z3 : w.frozen? ⟨b,3,none⟩ = false:=hwr.blk.frozen 3
   have hlt:=hwr.lt
   have hnlt : nb < w.heap.size:=World.block_lt_of_cell? w _ n0
   have k0 : (0 : Int) ≤ (i : Int):=by omega
   have k1 : (i : Int) < (l.length : Int):=by omega
   have hbs : w.heap.size ≠ b:=by omega
   have hws : (w.setCell ⟨b,3,none⟩ (.int .i64 ((i : Int) + 1))).heap.size = w.heap.size:=by simp
   have hba : Below (w.setCell ⟨b,3,none⟩ (.int .i64 ((i : Int) + 1))).heap.size (w.setCell ⟨b,3,none⟩ (.int .i64 ((i : Int) + 1))) ((w.setCell ⟨b,3,none⟩ (.int .i64 ((i : Int) + 1))).alloc (.cells #[.int .i64 4,.int .u64 (c0 : Int),.int .u64 (c1 : Int),.int .u64 (c2 : Int),.int .u64 (c3 : Int)] 114)).drew:=((Below.refl _ _).alloc (Nat.le_refl _) _).drew
   have HN2 : Hid (Blk ((w.setCell ⟨b,3,none⟩ (.int .i64 ((i : Int) + 1))).alloc (.cells #[.int .i64 4,.int .u64 (c0 : Int),.int .u64 (c1 : Int),.int .u64 (c2 : Int),.int .u64 (c3 : Int)] 114)).drew w.heap.size 114 #[.int .i64 4,.int .u64 (c0 : Int),.int .u64 (c1 : Int),.int .u64 (c2 : Int),.int .u64 (c3 : Int)]):=hid (by
    have:=(Blk.new (w.setCell ⟨b,3,none⟩ (.int .i64 ((i : Int) + 1))) 114 #[.int .i64 4,.int .u64 (c0 : Int),.int .u64 (c1 : Int),.int .u64 (c2 : Int),.int .u64 (c3 : Int)]).drew
    rw [hws] at this
    exact this)
   have HW2 : Hid (Wr B b p (.slice (some ⟨nb,off,none⟩) l.length cap) (i + 1) acc v ((w.setCell ⟨b,3,none⟩ (.int .i64 ((i : Int) + 1))).alloc (.cells #[.int .i64 4,.int .u64 (c0 : Int),.int .u64 (c1 : Int),.int .u64 (c2 : Int),.int .u64 (c3 : Int)] 114)).drew):=hid (by
    have:=hwr.set3 (i + 1)
    rw [show ((i + 1 : Nat) : Int) = (i : Int) + 1 by omega] at this
    exact this.below hba)
   have HK2 : Hid (WK B b w ((w.setCell ⟨b,3,none⟩ (.int .i64 ((i : Int) + 1))).alloc (.cells #[.int .i64 4,.int .u64 (c0 : Int),.int .u64 (c1 : Int),.int .u64 (c2 : Int),.int .u64 (c3 : Int)] 114)).drew):=hid ((WK.set hwr.hB w 3 _).trans (WK.of_below (by rw [hws];exact hBw) hba))
   have h2s : w.heap.size < ((w.setCell ⟨b,3,none⟩ (.int .i64 ((i : Int) + 1))).alloc (.cells #[.int .i64 4,.int .u64 (c0 : Int),.int .u64 (c1 : Int),.int .u64 (c2 : Int),.int .u64 (c3 : Int)] 114)).drew.heap.size:=HN2.out.lt
   unfold PenIs
   clear hnd hil hrow hokc hwr hp hba hws
   go_enter Tryz.func72,Tryz.ntmps72
   go_wp2_with fail
   go_region
   go_wp2_with fail
   generalize hw2 : ((w.setCell ⟨b,3,none⟩ (.int .i64 ((i : Int) + 1))).alloc (.cells #[.int .i64 4,.int .u64 (c0 : Int),.int .u64 (c1 : Int),.int .u64 (c2 : Int),.int .u64 (c3 : Int)] 114)).drew = w2 at *
   clear hw2
   have b0 : w2.cell? ⟨w.heap.size,0,none⟩ = some (.int .i64 4):=HN2.out.cell 0
   have hsplit : (flat (.alt x y)).length = 1 + (flat x).length + (flat y).length:=by simp [flat];omega
   have hx2:=textT_len x
   have hy2:=textT_len y
   have hwx:=wrapT_len (bnd 4 false x) (textT x)
   have hwx2:=wrapT_ge (bnd 4 false x) (textT x)
   have hb1 : acc.length + 3010 * (flat x).length + 2 ≤ 1000000:=by omega
   have hb2 : acc.length + (wrapT (bnd 4 false x) (textT x)).length + 1 + 3010 * (flat y).length + 2 ≤ 1000000:=by omega
   clear hsplit hx2 hy2 hwx hwx2 hlen
   have HPX : Hid (∀ (sec : Bool) (p v : Value) (acc : List UInt8) (W : World),PE B (.slice (some ⟨nb,off,none⟩) l.length cap) l W → IsP b p → Wr B b p (.slice (some ⟨nb,off,none⟩) l.length cap) (i + 1) acc v W → acc.length + 3010 * (flat x).length + 2 ≤ 1000000 → Calls Tryz.prog 106 #[.pointer (some ⟨b,0,none⟩),.int .i64 4,.bool sec] W (PenIs B b (.slice (some ⟨nb,off,none⟩) l.length cap) (i + 1 + (flat x).length) (acc ++ wrapT (bnd 4 sec x) (textT x)) W)):=hid fun sec p v acc W h1 h2 h3 h4 => hpx 4 sec p v acc W h1 h2 h3 h4
   unfold PenIs at HPX
   have HPY : Hid (∀ (sec : Bool) (p v : Value) (acc : List UInt8) (W : World),PE B (.slice (some ⟨nb,off,none⟩) l.length cap) l W → IsP b p → Wr B b p (.slice (some ⟨nb,off,none⟩) l.length cap) (i + 1 + (flat x).length) acc v W → acc.length + 3010 * (flat y).length + 2 ≤ 1000000 → Calls Tryz.prog 106 #[.pointer (some ⟨b,0,none⟩),.int .i64 4,.bool sec] W (PenIs B b (.slice (some ⟨nb,off,none⟩) l.length cap) (i + 1 + (flat x).length + (flat y).length) (acc ++ wrapT (bnd 4 sec y) (textT y)) W)):=hid fun sec p v acc W h1 h2 h3 h4 => hpy 4 sec p v acc W h1 h2 h3 h4
   unfold PenIs at HPY
   clear hpx hpy
   refine (HPX.out false p v acc w2 (HPE.out.below HK2.out.bel) HP.out HW2.out hb1).mono ?_
   rintro e w3 ⟨rfl,p3,v3,hp3,hw3,hk3⟩
   have HP3:=hid hp3
   have HW3:=hid hw3
   have HK3:=hid (HK2.out.trans hk3)
   have HN3:=hid (hk3.keep _ _ _ hbs (by decide) HN2.out)
   have q0 : w3.cell? ⟨w.heap.size,0,none⟩ = some (.int .i64 4):=HN3.out.cell 0
   clear hp3 hw3 hk3 HPX
   go_wp2_with fail
   refine (emb_byte B b _ 124 (by decide) p3 _ v3 _ w3 HW3.out HP3.out (by simp only [List.length_append];omega)).mono ?_
   rintro e w4 ⟨rfl,v4,hw4,hk4⟩
   have HW4:=hid hw4
   have HK4:=hid (HK3.out.trans hk4)
   have HN4:=hid (hk4.keep _ _ _ hbs (by decide) HN3.out)
   have s0 : w4.cell? ⟨w.heap.size,0,none⟩ = some (.int .i64 4):=HN4.out.cell 0
   have HP4 : Hid (IsP b (.pointer (some ⟨b,0,none⟩))):=hid (.inr rfl)
   clear hw4 hk4
   go_wp2_with fail
   refine (HPY.out true (.pointer (some ⟨b,0,none⟩)) v4 (acc ++ wrapT (bnd 4 false x) (textT x) ++ [124]) w4 (HPE.out.below HK4.out.bel) HP4.out HW4.out (by simp only [List.length_append,List.length_singleton];omega)).mono ?_
   rintro e w5 ⟨rfl,p5,v5,hp5,hw5,hk5⟩
   have H5:=hid (show ∃ p' v',IsP b p' ∧ Wr B b p' (.slice (some ⟨nb,off,none⟩) l.length cap) (i + (flat (.alt x y)).length) (acc ++ textT (.alt x y)) v' w5 ∧ WK B b w w5 from ⟨p5,v5,hp5,by
    have e1 : i + (flat (.alt x y)).length = i + 1 + (flat x).length + (flat y).length:=by simp [flat];omega
    have e2 : acc ++ textT (.alt x y) = (acc ++ wrapT (bnd 4 false x) (textT x) ++ [124]) ++ wrapT (bnd 4 true y) (textT y):=by rw [textT];simp
    rw [e1,e2]
    exact hw5,HK4.out.trans hk5⟩)
   clear hp5 hw5 hk5
   go_wp2_with fail
   go_end0
   exact ⟨rfl,H5.out⟩
 | star x ihx =>
   intro i hu
   have hpx:=parts_of hu.star.2 (ihx _ hu.star.2)
   intro p v acc w hpe hp hwr hlen
   have hnd:=hu.star.1
   obtain ⟨c0,c1,c2,c3,hz⟩ : ∃ c0 c1 c2 c3 : Nat,(c0,c1,c2,c3) = zc:=⟨_,_,_,_,rfl⟩
   rw [← hz] at hnd
   clear hz
   have hil : i < l.length:=(List.getElem?_eq_some_iff.1 hnd).1
   have hl60:=hpe.len
   have HPE:=hid hpe
   have HR:=hid hwr
   have hBw : B ≤ w.heap.size:=by have:=hwr.hB;have:=hwr.lt;omega
   have HP:=hid hp
   obtain ⟨_,hokc,nb,off,cap,rfl,hrow⟩:=hpe
   obtain ⟨n0,n1,n2,n3,n4⟩:=hrow w (Below.refl _ _) i _ hnd
   have HOK:=hid (hokc _ (List.mem_of_getElem? hnd))
   have r2 : w.cell? ⟨b,2,none⟩ = some (.slice (some ⟨nb,off,none⟩) l.length cap):=hwr.blk.cell 2
   have r3 : w.cell? ⟨b,3,none⟩ = some (.int .i64 (i : Int)):=hwr.blk.cell 3
   have z3 : w.frozen? ⟨b,3,none⟩ = false:=hwr.blk.frozen 3
   have hlt:=hwr.lt
   have hnlt : nb < w.heap.size:=World.block_lt_of_cell? w _ n0
   have k0 : (0 : Int) ≤ (i : Int):=by omega
   have k1 : (i : Int) < (l.length : Int):=by omega
   have hbs : w.heap.size ≠ b:=by omega
   have hws : (w.setCell ⟨b,3,none⟩ (.int .i64 ((i : Int) + 1))).heap.size = w.heap.size:=by simp
   have hba : Below (w.setCell ⟨b,3,none⟩ (.int .i64 ((i : Int) + 1))).heap.size (w.setCell ⟨b,3,none⟩ (.int .i64 ((i : Int) + 1))) ((w.setCell ⟨b,3,none⟩ (.int .i64 ((i : Int) + 1))).alloc (.cells #[.int .i64 5,.int .u64 (c0 : Int),.int .u64 (c1 : Int),.int .u64 (c2 : Int),.int .u64 (c3 : Int)] 114)).drew:=((Below.refl _ _).alloc (Nat.le_refl _) _).drew
   have HN2 : Hid (Blk ((w.setCell ⟨b,3,none⟩ (.int .i64 ((i : Int) + 1))).alloc (.cells #[.int .i64 5,.int .u64 (c0 : Int),.int .u64 (c1 : Int),.int .u64 (c2 : Int),.int .u64 (c3 : Int)] 114)).drew w.heap.size 114 #[.int .i64 5,.int .u64 (c0 : Int),.int .u64 (c1 : Int),.int .u64 (c2 : Int),.int .u64 (c3 : Int)]):=hid (by
    have:=(Blk.new (w.setCell ⟨b,3,none⟩ (.int .i64 ((i : Int) + 1))) 114 #[.int .i64 5,.int .u64 (c0 : Int),.int .u64 (c1 : Int),.int .u64 (c2 : Int),.int .u64 (c3 : Int)]).drew
    rw [hws] at this
    exact this)
   have HW2 : Hid (Wr B b p (.slice (some ⟨nb,off,none⟩) l.length cap) (i + 1) acc v ((w.setCell ⟨b,3,none⟩ (.int .i64 ((i : Int) + 1))).alloc (.cells #[.int .i64 5,.int .u64 (c0 : Int),.int .u64 (c1 : Int),.int .u64 (c2 : Int),.int .u64 (c3 : Int)] 114)).drew):=hid (by
    have:=hwr.set3 (i + 1)
    rw [show ((i + 1 : Nat) : Int) = (i : Int) + 1 by omega] at this
    exact this.below hba)
   have HK2 : Hid (WK B b w ((w.setCell ⟨b,3,none⟩ (.int .i64 ((i : Int) + 1))).alloc (.cells #[.int .i64 5,.int .u64 (c0 : Int),.int .u64 (c1 : Int),.int .u64 (c2 : Int),.int .u64 (c3 : Int)] 114)).drew):=hid ((WK.set hwr.hB w 3 _).trans (WK.of_below (by rw [hws];exact hBw) hba))
   have h2s : w.heap.size < ((w.setCell ⟨b,3,none⟩ (.int .i64 ((i : Int) + 1))).alloc (.cells #[.int .i64 5,.int .u64 (c0 : Int),.int .u64 (c1 : Int),.int .u64 (c2 : Int),.int .u64 (c3 : Int)] 114)).drew.heap.size:=HN2.out.lt
   unfold PenIs
   clear hnd hil hrow hokc hwr hp hba hws
   go_enter Tryz.func72,Tryz.ntmps72
   go_wp2_with fail
   go_region
   go_wp2_with fail
   generalize hw2 : ((w.setCell ⟨b,3,none⟩ (.int .i64 ((i : Int) + 1))).alloc (.cells #[.int .i64 5,.int .u64 (c0 : Int),.int .u64 (c1 : Int),.int .u64 (c2 : Int),.int .u64 (c3 : Int)] 114)).drew = w2 at *
   clear hw2
   have b0 : w2.cell? ⟨w.heap.size,0,none⟩ = some (.int .i64 5):=HN2.out.cell 0
   have hsplit : (flat (.star x)).length = 1 + (flat x).length:=by simp [flat];omega
   have hx2:=textT_len x
   have hwx:=wrapT_len (bnd 5 false x) (textT x)
   have hwx2:=wrapT_ge (bnd 5 false x) (textT x)
   have hx1 : acc.length + 3010 * (flat x).length + 2 ≤ 1000000:=by omega
   have hx3 : acc.length + (wrapT (bnd 5 false x) (textT x)).length ≤ 2000000:=by omega
   clear hsplit hx2 hwx hwx2 hlen
   have HPX : Hid (∀ (sec : Bool) (p v : Value) (acc : List UInt8) (W : World),PE B (.slice (some ⟨nb,off,none⟩) l.length cap) l W → IsP b p → Wr B b p (.slice (some ⟨nb,off,none⟩) l.length cap) (i + 1) acc v W → acc.length + 3010 * (flat x).length + 2 ≤ 1000000 → Calls Tryz.prog 106 #[.pointer (some ⟨b,0,none⟩),.int .i64 5,.bool sec] W (PenIs B b (.slice (some ⟨nb,off,none⟩) l.length cap) (i + 1 + (flat x).length) (acc ++ wrapT (bnd 5 sec x) (textT x)) W)):=hid fun sec p v acc W h1 h2 h3 h4 => hpx 5 sec p v acc W h1 h2 h3 h4
   unfold PenIs at HPX
   clear hpx
   refine (HPX.out false p v acc w2 (HPE.out.below HK2.out.bel) HP.out HW2.out hx1).mono ?_
   rintro e w3 ⟨rfl,p3,v3,hp3,hw3,hk3⟩
   have HA3 : Hid (∃ p' v',IsP b p' ∧ Wr B b p' (.slice (some ⟨nb,off,none⟩) l.length cap) (i + 1 + (flat x).length) (acc ++ wrapT (bnd 5 false x) (textT x)) v' w3.drew ∧ WK B b w w3.drew ∧ Blk w3.drew w.heap.size 114 #[.int .i64 5,.int .u64 (c0 : Int),.int .u64 (c1 : Int),.int .u64 (c2 : Int),.int .u64 (c3 : Int)]):=hid ⟨p3,v3,hp3,hw3.below ((Below.refl _ _).drew),(HK2.out.trans hk3).trans (WK.of_below (Nat.le_trans hBw (HK2.out.trans hk3).bel.size) ((Below.refl _ _).drew)),(hk3.keep _ _ _ hbs (by decide) HN2.out).drew⟩
   clear hp3 hw3 hk3 HPX
   have HSA : Hid (∀ W,Hid (∃ p' v',IsP b p' ∧ Wr B b p' (.slice (some ⟨nb,off,none⟩) l.length cap) (i + 1 + (flat x).length) (acc ++ wrapT (bnd 5 false x) (textT x)) v' W ∧ WK B b w W ∧ Blk W w.heap.size 114 #[.int .i64 5,.int .u64 (c0 : Int),.int .u64 (c1 : Int),.int .u64 (c2 : Int),.int .u64 (c3 : Int)]) → (W.cell? ⟨w.heap.size,0,none⟩ = some (.int .i64 5) ∧ True)):=hid fun W h => by
    obtain ⟨_,_,_,_,_,h⟩:=h.out
    exact ⟨h.cell 0,trivial⟩
   have HSC : Hid (∀ W,Hid (∃ p' v',IsP b p' ∧ Wr B b p' (.slice (some ⟨nb,off,none⟩) l.length cap) (i + (flat (.star x)).length) (acc ++ textT (.star x)) v' W ∧ WK B b w W ∧ Blk W w.heap.size 114 #[.int .i64 5,.int .u64 (c0 : Int),.int .u64 (c1 : Int),.int .u64 (c2 : Int),.int .u64 (c3 : Int)]) → (W.cell? ⟨w.heap.size,0,none⟩ = some (.int .i64 5) ∧ True)):=hid fun W h => by
    obtain ⟨_,_,_,_,_,h⟩:=h.out
    exact ⟨h.cell 0,trivial⟩
   have HWB : Hid (∀ W,Hid (∃ p' v',IsP b p' ∧ Wr B b p' (.slice (some ⟨nb,off,none⟩) l.length cap) (i + 1 + (flat x).length) (acc ++ wrapT (bnd 5 false x) (textT x)) v' W ∧ WK B b w W ∧ Blk W w.heap.size 114 #[.int .i64 5,.int .u64 (c0 : Int),.int .u64 (c1 : Int),.int .u64 (c2 : Int),.int .u64 (c3 : Int)]) → Calls Tryz.prog 105 #[.pointer (some ⟨b,0,none⟩),.int .u8 42] W (fun e W' => e = .returned .nilIface ∧ Hid (∃ p' v',IsP b p' ∧ Wr B b p' (.slice (some ⟨nb,off,none⟩) l.length cap) (i + (flat (.star x)).length) (acc ++ textT (.star x)) v' W' ∧ WK B b w W' ∧ Blk W' w.heap.size 114 #[.int .i64 5,.int .u64 (c0 : Int),.int .u64 (c1 : Int),.int .u64 (c2 : Int),.int .u64 (c3 : Int)]))):=hid fun W h => by
    obtain ⟨p',v',h1,h2,h3,h4⟩:=h.out
    refine (emb_byte B b _ 42 (by decide) p' _ v' _ W h2 h1 (by simp only [List.length_append];omega)).mono ?_
    rintro e w' ⟨he,v3,hw3,hk3⟩
    refine ⟨he,hid ⟨_,v3,.inr rfl,?_,h3.trans hk3,hk3.keep _ _ _ hbs (by decide) h4⟩⟩
    have e1 : i + (flat (.star x)).length = i + 1 + (flat x).length:=by simp [flat];omega
    have e2 : acc ++ textT (.star x) = acc ++ wrapT (bnd 5 false x) (textT x) ++ [UInt8.ofNat 42]:=by rw [textT];simp
    rw [e1,e2]
    exact hw3
   go_wp2_with fail
   go_region_held3 (fun W => (W.cell? ⟨w.heap.size,0,none⟩ = some (.int .i64 5) ∧ True))
    (first | exact HSA.out _ (by assumption) | exact HSC.out _ (by assumption))
    (first
      | (go_at_call 105;refine (HWB.out _ (by assumption)).mono ?_;rintro e w4 ⟨rfl,hC4⟩))
   have H3:=hid (show ∃ p' v',IsP b p' ∧ Wr B b p' (.slice (some ⟨nb,off,none⟩) l.length cap) (i + (flat (.star x)).length) (acc ++ textT (.star x)) v' w4 ∧ WK B b w w4 from by
    obtain ⟨p',v',h1,h2,h3,_⟩:=hC4.out
    exact ⟨p',v',h1,h2,h3⟩)
   go_wp2_with fail
   go_end0
   exact ⟨rfl,H3.out⟩
 | plus x ihx =>
   intro i hu
   have hpx:=parts_of hu.plus.2 (ihx _ hu.plus.2)
   intro p v acc w hpe hp hwr hlen
   have hnd:=hu.plus.1
   obtain ⟨c0,c1,c2,c3,hz⟩ : ∃ c0 c1 c2 c3 : Nat,(c0,c1,c2,c3) = zc:=⟨_,_,_,_,rfl⟩
   rw [← hz] at hnd
   clear hz
   have hil : i < l.length:=(List.getElem?_eq_some_iff.1 hnd).1
   have hl60:=hpe.len
   have HPE:=hid hpe
   have HR:=hid hwr
   have hBw : B ≤ w.heap.size:=by have:=hwr.hB;have:=hwr.lt;omega
   have HP:=hid hp
   obtain ⟨_,hokc,nb,off,cap,rfl,hrow⟩:=hpe
   obtain ⟨n0,n1,n2,n3,n4⟩:=hrow w (Below.refl _ _) i _ hnd
   have HOK:=hid (hokc _ (List.mem_of_getElem? hnd))
   have r2 : w.cell? ⟨b,2,none⟩ = some (.slice (some ⟨nb,off,none⟩) l.length cap):=hwr.blk.cell 2
   have r3 : w.cell? ⟨b,3,none⟩ = some (.int .i64 (i : Int)):=hwr.blk.cell 3
   have z3 : w.frozen? ⟨b,3,none⟩ = false:=hwr.blk.frozen 3
   have hlt:=hwr.lt
   have hnlt : nb < w.heap.size:=World.block_lt_of_cell? w _ n0
   have k0 : (0 : Int) ≤ (i : Int):=by omega
   have k1 : (i : Int) < (l.length : Int):=by omega
   have hbs : w.heap.size ≠ b:=by omega
   have hws : (w.setCell ⟨b,3,none⟩ (.int .i64 ((i : Int) + 1))).heap.size = w.heap.size:=by simp
   have hba : Below (w.setCell ⟨b,3,none⟩ (.int .i64 ((i : Int) + 1))).heap.size (w.setCell ⟨b,3,none⟩ (.int .i64 ((i : Int) + 1))) ((w.setCell ⟨b,3,none⟩ (.int .i64 ((i : Int) + 1))).alloc (.cells #[.int .i64 6,.int .u64 (c0 : Int),.int .u64 (c1 : Int),.int .u64 (c2 : Int),.int .u64 (c3 : Int)] 114)).drew:=((Below.refl _ _).alloc (Nat.le_refl _) _).drew
   have HN2 : Hid (Blk ((w.setCell ⟨b,3,none⟩ (.int .i64 ((i : Int) + 1))).alloc (.cells #[.int .i64 6,.int .u64 (c0 : Int),.int .u64 (c1 : Int),.int .u64 (c2 : Int),.int .u64 (c3 : Int)] 114)).drew w.heap.size 114 #[.int .i64 6,.int .u64 (c0 : Int),.int .u64 (c1 : Int),.int .u64 (c2 : Int),.int .u64 (c3 : Int)]):=hid (by
    have:=(Blk.new (w.setCell ⟨b,3,none⟩ (.int .i64 ((i : Int) + 1))) 114 #[.int .i64 6,.int .u64 (c0 : Int),.int .u64 (c1 : Int),.int .u64 (c2 : Int),.int .u64 (c3 : Int)]).drew
    rw [hws] at this
    exact this)
   have HW2 : Hid (Wr B b p (.slice (some ⟨nb,off,none⟩) l.length cap) (i + 1) acc v ((w.setCell ⟨b,3,none⟩ (.int .i64 ((i : Int) + 1))).alloc (.cells #[.int .i64 6,.int .u64 (c0 : Int),.int .u64 (c1 : Int),.int .u64 (c2 : Int),.int .u64 (c3 : Int)] 114)).drew):=hid (by
    have:=hwr.set3 (i + 1)
    rw [show ((i + 1 : Nat) : Int) = (i : Int) + 1 by omega] at this
    exact this.below hba)
   have HK2 : Hid (WK B b w ((w.setCell ⟨b,3,none⟩ (.int .i64 ((i : Int) + 1))).alloc (.cells #[.int .i64 6,.int .u64 (c0 : Int),.int .u64 (c1 : Int),.int .u64 (c2 : Int),.int .u64 (c3 : Int)] 114)).drew):=hid ((WK.set hwr.hB w 3 _).trans (WK.of_below (by rw [hws];exact hBw) hba))
   have h2s : w.heap.size < ((w.setCell ⟨b,3,none⟩ (.int .i64 ((i : Int) + 1))).alloc (.cells #[.int .i64 6,.int .u64 (c0 : Int),.int .u64 (c1 : Int),.int .u64 (c2 : Int),.int .u64 (c3 : Int)] 114)).drew.heap.size:=HN2.out.lt
   unfold PenIs
   clear hnd hil hrow hokc hwr hp hba hws
   go_enter Tryz.func72,Tryz.ntmps72
   go_wp2_with fail
   go_region
   go_wp2_with fail
   generalize hw2 : ((w.setCell ⟨b,3,none⟩ (.int .i64 ((i : Int) + 1))).alloc (.cells #[.int .i64 6,.int .u64 (c0 : Int),.int .u64 (c1 : Int),.int .u64 (c2 : Int),.int .u64 (c3 : Int)] 114)).drew = w2 at *
   clear hw2
   have b0 : w2.cell? ⟨w.heap.size,0,none⟩ = some (.int .i64 6):=HN2.out.cell 0
   have hsplit : (flat (.plus x)).length = 1 + (flat x).length:=by simp [flat];omega
   have hx2:=textT_len x
   have hwx:=wrapT_len (bnd 6 false x) (textT x)
   have hwx2:=wrapT_ge (bnd 6 false x) (textT x)
   have hx1 : acc.length + 3010 * (flat x).length + 2 ≤ 1000000:=by omega
   have hx3 : acc.length + (wrapT (bnd 6 false x) (textT x)).length ≤ 2000000:=by omega
   clear hsplit hx2 hwx hwx2 hlen
   have HPX : Hid (∀ (sec : Bool) (p v : Value) (acc : List UInt8) (W : World),PE B (.slice (some ⟨nb,off,none⟩) l.length cap) l W → IsP b p → Wr B b p (.slice (some ⟨nb,off,none⟩) l.length cap) (i + 1) acc v W → acc.length + 3010 * (flat x).length + 2 ≤ 1000000 → Calls Tryz.prog 106 #[.pointer (some ⟨b,0,none⟩),.int .i64 6,.bool sec] W (PenIs B b (.slice (some ⟨nb,off,none⟩) l.length cap) (i + 1 + (flat x).length) (acc ++ wrapT (bnd 6 sec x) (textT x)) W)):=hid fun sec p v acc W h1 h2 h3 h4 => hpx 6 sec p v acc W h1 h2 h3 h4
   unfold PenIs at HPX
   clear hpx
   refine (HPX.out false p v acc w2 (HPE.out.below HK2.out.bel) HP.out HW2.out hx1).mono ?_
   rintro e w3 ⟨rfl,p3,v3,hp3,hw3,hk3⟩
   have HA3 : Hid (∃ p' v',IsP b p' ∧ Wr B b p' (.slice (some ⟨nb,off,none⟩) l.length cap) (i + 1 + (flat x).length) (acc ++ wrapT (bnd 6 false x) (textT x)) v' w3.drew ∧ WK B b w w3.drew ∧ Blk w3.drew w.heap.size 114 #[.int .i64 6,.int .u64 (c0 : Int),.int .u64 (c1 : Int),.int .u64 (c2 : Int),.int .u64 (c3 : Int)]):=hid ⟨p3,v3,hp3,hw3.below ((Below.refl _ _).drew),(HK2.out.trans hk3).trans (WK.of_below (Nat.le_trans hBw (HK2.out.trans hk3).bel.size) ((Below.refl _ _).drew)),(hk3.keep _ _ _ hbs (by decide) HN2.out).drew⟩
   clear hp3 hw3 hk3 HPX
   have HSA : Hid (∀ W,Hid (∃ p' v',IsP b p' ∧ Wr B b p' (.slice (some ⟨nb,off,none⟩) l.length cap) (i + 1 + (flat x).length) (acc ++ wrapT (bnd 6 false x) (textT x)) v' W ∧ WK B b w W ∧ Blk W w.heap.size 114 #[.int .i64 6,.int .u64 (c0 : Int),.int .u64 (c1 : Int),.int .u64 (c2 : Int),.int .u64 (c3 : Int)]) → (W.cell? ⟨w.heap.size,0,none⟩ = some (.int .i64 6) ∧ True)):=hid fun W h => by
    obtain ⟨_,_,_,_,_,h⟩:=h.out
    exact ⟨h.cell 0,trivial⟩
   have HSC : Hid (∀ W,Hid (∃ p' v',IsP b p' ∧ Wr B b p' (.slice (some ⟨nb,off,none⟩) l.length cap) (i + (flat (.plus x)).length) (acc ++ textT (.plus x)) v' W ∧ WK B b w W ∧ Blk W w.heap.size 114 #[.int .i64 6,.int .u64 (c0 : Int),.int .u64 (c1 : Int),.int .u64 (c2 : Int),.int .u64 (c3 : Int)]) → (W.cell? ⟨w.heap.size,0,none⟩ = some (.int .i64 6) ∧ True)):=hid fun W h => by
    obtain ⟨_,_,_,_,_,h⟩:=h.out
    exact ⟨h.cell 0,trivial⟩
   have HWB : Hid (∀ W,Hid (∃ p' v',IsP b p' ∧ Wr B b p' (.slice (some ⟨nb,off,none⟩) l.length cap) (i + 1 + (flat x).length) (acc ++ wrapT (bnd 6 false x) (textT x)) v' W ∧ WK B b w W ∧ Blk W w.heap.size 114 #[.int .i64 6,.int .u64 (c0 : Int),.int .u64 (c1 : Int),.int .u64 (c2 : Int),.int .u64 (c3 : Int)]) → Calls Tryz.prog 105 #[.pointer (some ⟨b,0,none⟩),.int .u8 43] W (fun e W' => e = .returned .nilIface ∧ Hid (∃ p' v',IsP b p' ∧ Wr B b p' (.slice (some ⟨nb,off,none⟩) l.length cap) (i + (flat (.plus x)).length) (acc ++ textT (.plus x)) v' W' ∧ WK B b w W' ∧ Blk W' w.heap.size 114 #[.int .i64 6,.int .u64 (c0 : Int),.int .u64 (c1 : Int),.int .u64 (c2 : Int),.int .u64 (c3 : Int)]))):=hid fun W h => by
    obtain ⟨p',v',h1,h2,h3,h4⟩:=h.out
    refine (emb_byte B b _ 43 (by decide) p' _ v' _ W h2 h1 (by simp only [List.length_append];omega)).mono ?_
    rintro e w' ⟨he,v3,hw3,hk3⟩
    refine ⟨he,hid ⟨_,v3,.inr rfl,?_,h3.trans hk3,hk3.keep _ _ _ hbs (by decide) h4⟩⟩
    have e1 : i + (flat (.plus x)).length = i + 1 + (flat x).length:=by simp [flat];omega
    have e2 : acc ++ textT (.plus x) = acc ++ wrapT (bnd 6 false x) (textT x) ++ [UInt8.ofNat 43]:=by rw [textT];simp
    rw [e1,e2]
    exact hw3
   go_wp2_with fail
   go_region_held3 (fun W => (W.cell? ⟨w.heap.size,0,none⟩ = some (.int .i64 6) ∧ True))
    (first | exact HSA.out _ (by assumption) | exact HSC.out _ (by assumption))
    (first
      | (go_at_call 105;refine (HWB.out _ (by assumption)).mono ?_;rintro e w4 ⟨rfl,hC4⟩))
   have H3:=hid (show ∃ p' v',IsP b p' ∧ Wr B b p' (.slice (some ⟨nb,off,none⟩) l.length cap) (i + (flat (.plus x)).length) (acc ++ textT (.plus x)) v' w4 ∧ WK B b w w4 from by
    obtain ⟨p',v',h1,h2,h3,_⟩:=hC4.out
    exact ⟨p',v',h1,h2,h3⟩)
   go_wp2_with fail
   go_end0
   exact ⟨rfl,H3.out⟩
 | opt x ihx =>
   intro i hu
   have hpx:=parts_of hu.opt.2 (ihx _ hu.opt.2)
   intro p v acc w hpe hp hwr hlen
   have hnd:=hu.opt.1
   obtain ⟨c0,c1,c2,c3,hz⟩ : ∃ c0 c1 c2 c3 : Nat,(c0,c1,c2,c3) = zc:=⟨_,_,_,_,rfl⟩
   rw [← hz] at hnd
   clear hz
   have hil : i < l.length:=(List.getElem?_eq_some_iff.1 hnd).1
   have hl60:=hpe.len
   have HPE:=hid hpe
   have HR:=hid hwr
   have hBw : B ≤ w.heap.size:=by have:=hwr.hB;have:=hwr.lt;omega
   have HP:=hid hp
   obtain ⟨_,hokc,nb,off,cap,rfl,hrow⟩:=hpe
   obtain ⟨n0,n1,n2,n3,n4⟩:=hrow w (Below.refl _ _) i _ hnd
   have HOK:=hid (hokc _ (List.mem_of_getElem? hnd))
   have r2 : w.cell? ⟨b,2,none⟩ = some (.slice (some ⟨nb,off,none⟩) l.length cap):=hwr.blk.cell 2
   have r3 : w.cell? ⟨b,3,none⟩ = some (.int .i64 (i : Int)):=hwr.blk.cell 3
   have z3 : w.frozen? ⟨b,3,none⟩ = false:=hwr.blk.frozen 3
   have hlt:=hwr.lt
   have hnlt : nb < w.heap.size:=World.block_lt_of_cell? w _ n0
   have k0 : (0 : Int) ≤ (i : Int):=by omega
   have k1 : (i : Int) < (l.length : Int):=by omega
   have hbs : w.heap.size ≠ b:=by omega
   have hws : (w.setCell ⟨b,3,none⟩ (.int .i64 ((i : Int) + 1))).heap.size = w.heap.size:=by simp
   have hba : Below (w.setCell ⟨b,3,none⟩ (.int .i64 ((i : Int) + 1))).heap.size (w.setCell ⟨b,3,none⟩ (.int .i64 ((i : Int) + 1))) ((w.setCell ⟨b,3,none⟩ (.int .i64 ((i : Int) + 1))).alloc (.cells #[.int .i64 7,.int .u64 (c0 : Int),.int .u64 (c1 : Int),.int .u64 (c2 : Int),.int .u64 (c3 : Int)] 114)).drew:=((Below.refl _ _).alloc (Nat.le_refl _) _).drew
   have HN2 : Hid (Blk ((w.setCell ⟨b,3,none⟩ (.int .i64 ((i : Int) + 1))).alloc (.cells #[.int .i64 7,.int .u64 (c0 : Int),.int .u64 (c1 : Int),.int .u64 (c2 : Int),.int .u64 (c3 : Int)] 114)).drew w.heap.size 114 #[.int .i64 7,.int .u64 (c0 : Int),.int .u64 (c1 : Int),.int .u64 (c2 : Int),.int .u64 (c3 : Int)]):=hid (by
    have:=(Blk.new (w.setCell ⟨b,3,none⟩ (.int .i64 ((i : Int) + 1))) 114 #[.int .i64 7,.int .u64 (c0 : Int),.int .u64 (c1 : Int),.int .u64 (c2 : Int),.int .u64 (c3 : Int)]).drew
    rw [hws] at this
    exact this)
   have HW2 : Hid (Wr B b p (.slice (some ⟨nb,off,none⟩) l.length cap) (i + 1) acc v ((w.setCell ⟨b,3,none⟩ (.int .i64 ((i : Int) + 1))).alloc (.cells #[.int .i64 7,.int .u64 (c0 : Int),.int .u64 (c1 : Int),.int .u64 (c2 : Int),.int .u64 (c3 : Int)] 114)).drew):=hid (by
    have:=hwr.set3 (i + 1)
    rw [show ((i + 1 : Nat) : Int) = (i : Int) + 1 by omega] at this
    exact this.below hba)
   have HK2 : Hid (WK B b w ((w.setCell ⟨b,3,none⟩ (.int .i64 ((i : Int) + 1))).alloc (.cells #[.int .i64 7,.int .u64 (c0 : Int),.int .u64 (c1 : Int),.int .u64 (c2 : Int),.int .u64 (c3 : Int)] 114)).drew):=hid ((WK.set hwr.hB w 3 _).trans (WK.of_below (by rw [hws];exact hBw) hba))
   have h2s : w.heap.size < ((w.setCell ⟨b,3,none⟩ (.int .i64 ((i : Int) + 1))).alloc (.cells #[.int .i64 7,.int .u64 (c0 : Int),.int .u64 (c1 : Int),.int .u64 (c2 : Int),.int .u64 (c3 : Int)] 114)).drew.heap.size:=HN2.out.lt
   unfold PenIs
   clear hnd hil hrow hokc hwr hp hba hws
   go_enter Tryz.func72,Tryz.ntmps72
   go_wp2_with fail
   go_region
   go_wp2_with fail
   generalize hw2 : ((w.setCell ⟨b,3,none⟩ (.int .i64 ((i : Int) + 1))).alloc (.cells #[.int .i64 7,.int .u64 (c0 : Int),.int .u64 (c1 : Int),.int .u64 (c2 : Int),.int .u64 (c3 : Int)] 114)).drew = w2 at *
   clear hw2
   have b0 : w2.cell? ⟨w.heap.size,0,none⟩ = some (.int .i64 7):=HN2.out.cell 0
   have hsplit : (flat (.opt x)).length = 1 + (flat x).length:=by simp [flat];omega
   have hx2:=textT_len x
   have hwx:=wrapT_len (bnd 7 false x) (textT x)
   have hwx2:=wrapT_ge (bnd 7 false x) (textT x)
   have hx1 : acc.length + 3010 * (flat x).length + 2 ≤ 1000000:=by omega
   have hx3 : acc.length + (wrapT (bnd 7 false x) (textT x)).length ≤ 2000000:=by omega
   clear hsplit hx2 hwx hwx2 hlen
   have HPX : Hid (∀ (sec : Bool) (p v : Value) (acc : List UInt8) (W : World),PE B (.slice (some ⟨nb,off,none⟩) l.length cap) l W → IsP b p → Wr B b p (.slice (some ⟨nb,off,none⟩) l.length cap) (i + 1) acc v W → acc.length + 3010 * (flat x).length + 2 ≤ 1000000 → Calls Tryz.prog 106 #[.pointer (some ⟨b,0,none⟩),.int .i64 7,.bool sec] W (PenIs B b (.slice (some ⟨nb,off,none⟩) l.length cap) (i + 1 + (flat x).length) (acc ++ wrapT (bnd 7 sec x) (textT x)) W)):=hid fun sec p v acc W h1 h2 h3 h4 => hpx 7 sec p v acc W h1 h2 h3 h4
   unfold PenIs at HPX
   clear hpx
   refine (HPX.out false p v acc w2 (HPE.out.below HK2.out.bel) HP.out HW2.out hx1).mono ?_
   rintro e w3 ⟨rfl,p3,v3,hp3,hw3,hk3⟩
   have HA3 : Hid (∃ p' v',IsP b p' ∧ Wr B b p' (.slice (some ⟨nb,off,none⟩) l.length cap) (i + 1 + (flat x).length) (acc ++ wrapT (bnd 7 false x) (textT x)) v' w3.drew ∧ WK B b w w3.drew ∧ Blk w3.drew w.heap.size 114 #[.int .i64 7,.int .u64 (c0 : Int),.int .u64 (c1 : Int),.int .u64 (c2 : Int),.int .u64 (c3 : Int)]):=hid ⟨p3,v3,hp3,hw3.below ((Below.refl _ _).drew),(HK2.out.trans hk3).trans (WK.of_below (Nat.le_trans hBw (HK2.out.trans hk3).bel.size) ((Below.refl _ _).drew)),(hk3.keep _ _ _ hbs (by decide) HN2.out).drew⟩
   clear hp3 hw3 hk3 HPX
   have HSA : Hid (∀ W,Hid (∃ p' v',IsP b p' ∧ Wr B b p' (.slice (some ⟨nb,off,none⟩) l.length cap) (i + 1 + (flat x).length) (acc ++ wrapT (bnd 7 false x) (textT x)) v' W ∧ WK B b w W ∧ Blk W w.heap.size 114 #[.int .i64 7,.int .u64 (c0 : Int),.int .u64 (c1 : Int),.int .u64 (c2 : Int),.int .u64 (c3 : Int)]) → (W.cell? ⟨w.heap.size,0,none⟩ = some (.int .i64 7) ∧ True)):=hid fun W h => by
    obtain ⟨_,_,_,_,_,h⟩:=h.out
    exact ⟨h.cell 0,trivial⟩
   have HSC : Hid (∀ W,Hid (∃ p' v',IsP b p' ∧ Wr B b p' (.slice (some ⟨nb,off,none⟩) l.length cap) (i + (flat (.opt x)).length) (acc ++ textT (.opt x)) v' W ∧ WK B b w W ∧ Blk W w.heap.size 114 #[.int .i64 7,.int .u64 (c0 : Int),.int .u64 (c1 : Int),.int .u64 (c2 : Int),.int .u64 (c3 : Int)]) → (W.cell? ⟨w.heap.size,0,none⟩ = some (.int .i64 7) ∧ True)):=hid fun W h => by
    obtain ⟨_,_,_,_,_,h⟩:=h.out
    exact ⟨h.cell 0,trivial⟩
   have HWB : Hid (∀ W,Hid (∃ p' v',IsP b p' ∧ Wr B b p' (.slice (some ⟨nb,off,none⟩) l.length cap) (i + 1 + (flat x).length) (acc ++ wrapT (bnd 7 false x) (textT x)) v' W ∧ WK B b w W ∧ Blk W w.heap.size 114 #[.int .i64 7,.int .u64 (c0 : Int),.int .u64 (c1 : Int),.int .u64 (c2 : Int),.int .u64 (c3 : Int)]) → Calls Tryz.prog 105 #[.pointer (some ⟨b,0,none⟩),.int .u8 63] W (fun e W' => e = .returned .nilIface ∧ Hid (∃ p' v',IsP b p' ∧ Wr B b p' (.slice (some ⟨nb,off,none⟩) l.length cap) (i + (flat (.opt x)).length) (acc ++ textT (.opt x)) v' W' ∧ WK B b w W' ∧ Blk W' w.heap.size 114 #[.int .i64 7,.int .u64 (c0 : Int),.int .u64 (c1 : Int),.int .u64 (c2 : Int),.int .u64 (c3 : Int)]))):=hid fun W h => by
    obtain ⟨p',v',h1,h2,h3,h4⟩:=h.out
    refine (emb_byte B b _ 63 (by decide) p' _ v' _ W h2 h1 (by simp only [List.length_append];omega)).mono ?_
    rintro e w' ⟨he,v3,hw3,hk3⟩
    refine ⟨he,hid ⟨_,v3,.inr rfl,?_,h3.trans hk3,hk3.keep _ _ _ hbs (by decide) h4⟩⟩
    have e1 : i + (flat (.opt x)).length = i + 1 + (flat x).length:=by simp [flat];omega
    have e2 : acc ++ textT (.opt x) = acc ++ wrapT (bnd 7 false x) (textT x) ++ [UInt8.ofNat 63]:=by rw [textT];simp
    rw [e1,e2]
    exact hw3
   go_wp2_with fail
   go_region_held3 (fun W => (W.cell? ⟨w.heap.size,0,none⟩ = some (.int .i64 7) ∧ True))
    (first | exact HSA.out _ (by assumption) | exact HSC.out _ (by assumption))
    (first
      | (go_at_call 105;refine (HWB.out _ (by assumption)).mono ?_;rintro e w4 ⟨rfl,hC4⟩))
   have H3:=hid (show ∃ p' v',IsP b p' ∧ Wr B b p' (.slice (some ⟨nb,off,none⟩) l.length cap) (i + (flat (.opt x)).length) (acc ++ textT (.opt x)) v' w4 ∧ WK B b w w4 from by
    obtain ⟨p',v',h1,h2,h3,_⟩:=hC4.out
    exact ⟨p',v',h1,h2,h3⟩)
   go_wp2_with fail
   go_end0
   exact ⟨rfl,H3.out⟩
set_option linter.unusedVariables false
def printR (l : List Nd) (t : Rx) : List UInt8 × Int:=if chk l ≠ 0 then ([],chk l) else if (textT t).length ≤ 200 then (textT t,0) else ([],3)
def PrintsIs (r : List UInt8 × Int) (w : World) (e : Ending) (w' : World) : Prop:=e = .returned (.tuple #[.string ⟨r.1.toArray⟩,errV r.2]) ∧ Below w.heap.size w w'
theorem Print_c (l : List Nd) (t : Rx) (ht : chk l = 0 → l = flat t) (hok : ∀ n ∈ l,okC n.cls) (v : Value) (w : World) (hr : RdN w v l) :
 Calls Tryz.prog 45 #[v] w (PrintsIs (printR l t) w):=by
 have HCH:=hid (Check_any l v w hr)
 unfold CheckIs at HCH
 by_cases hc : chk l = 0
 ·have hl:=ht hc
  have h60:=(chk_tree hc).1
  have hpos : 0 < l.length:=by rw [hl];exact flat_pos t
  have hpr : printR l t = if (textT t).length ≤ 200 then (textT t,0) else ([],3):=by unfold printR;rw [if_neg (by simp [hc])]
  have hat : At l 0 t:=by rw [hl];exact At.whole t
  have hlt2:=textT_len t
  rw [← hl] at hlt2
  have HWR:=hid (fun B b rv => writes_c (B:=B) (b:=b) (rv:=rv) t 0 hat)
  unfold WritesAt PenIs at HWR
  obtain ⟨R,hR⟩ : ∃ R,R = printR l t:=⟨_,rfl⟩
  rw [← hR]
  rw [hpr] at hR
  have HRR:=hid hR
  rw [← hl] at HWR
  rw [hc,errV_zero] at HCH
  obtain ⟨A,cap,rfl,hcap,hcap2,hmem⟩:=hr.open_
  obtain ⟨nb,off,rfl,hnb,hrow⟩:=hmem hpos
  have hl3 : 3010 * l.length ≤ 200000:=by omega
  have HPE : Hid (∀ W,Below w.heap.size w W → PE W.heap.size (.slice (some ⟨nb,off,none⟩) l.length cap) l W):=hid fun W hW => ⟨h60,hok,nb,off,cap,rfl,fun W' hW' => hrow W' (fun o => ((hW'.cell (p:=⟨nb,o,none⟩) (Nat.lt_of_lt_of_le hnb hW.size)).trans (hW.cell (p:=⟨nb,o,none⟩) hnb)))⟩
  generalize textT t = tt at *
  clear hR hat hpr hr hok hc ht hmem hrow hl
  unfold PrintsIs
  go_enter Tryz.func45,Tryz.ntmps45
  go_wp2_with fail
  refine HCH.out.mono ?_
  rintro e w1 ⟨rfl,hb1⟩
  have hba : Below w1.heap.size w1 (w1.alloc (.cells #[.pointer none,.slice none 0 0,.slice (some ⟨nb,off,none⟩) l.length cap,.int .i64 0] 131)):=(Below.refl _ _).alloc (Nat.le_refl _) _
  have HP1:=hid ((HPE.out w1 hb1).below hba)
  have HW1 : Hid (Wr w1.heap.size w1.heap.size (.pointer none) (.slice (some ⟨nb,off,none⟩) l.length cap) 0 [] (.slice none 0 0) (w1.alloc (.cells #[.pointer none,.slice none 0 0,.slice (some ⟨nb,off,none⟩) l.length cap,.int .i64 0] 131))):=hid ⟨Nat.le_refl _,Blk.new _ _ _,⟨by simp [Lib.byteCells],.inl ⟨rfl,rfl⟩⟩,by simp [Value.ownBlock],fun _ => rfl⟩
  have HB1:=hid hb1
  have HA1:=hid hba
  clear hb1 hba HCH
  have HWW:=hid (HWR.out w1.heap.size w1.heap.size _ (.pointer none) _ [] _ HP1.out (.inl rfl) HW1.out (by simp;omega))
  clear HWR HPE hlt2
  go_wp2_with fail
  refine HWW.out.mono ?_
  rintro e w2 ⟨rfl,p2,v2,hp2,hw2,hk2⟩
  rw [List.nil_append] at hw2
  have HW2:=hid hw2
  have HB2:=hid (HB1.out.trans ((HA1.out.trans hk2.bel).mono HB1.out.size))
  have HLN:=hid (emb_len _ _ _ _ _ _ _ w2 hw2)
  have HST:=hid (emb_string _ _ _ _ _ _ _ w2 hw2)
  clear hp2 hw2 hk2 HWW
  go_wp2_with fail
  refine HLN.out.mono ?_
  rintro e w3 ⟨rfl,rfl⟩
  by_cases h200 : tt.length ≤ 200
  ·have d : decide ((200 : Int) < (tt.length : Int)) = false:=by simp;omega
   have HR2 : Hid (R = (tt,0)):=hid (by rw [HRR.out,if_pos h200])
   clear h200
   go_wp2_with fail
   refine HST.out.mono ?_
   rintro e w4 ⟨rfl,hb4⟩
   have HB4:=hid (HB2.out.trans (hb4.mono HB1.out.size))
   clear hb4
   go_wp2_with fail
   go_ret2
   exact ⟨by rw [HR2.out];rfl,HB4.out⟩
  ·have d : decide ((200 : Int) < (tt.length : Int)) = true:=by simp;omega
   have HR2 : Hid (R = ([],3)):=hid (by rw [HRR.out,if_neg h200])
   clear h200
   go_wp2_with fail
   go_ret2
   exact ⟨by rw [HR2.out];rfl,HB2.out⟩
 ·have hpr : printR l t = ([],chk l):=by unfold printR;rw [if_pos hc]
  rw [hpr]
  unfold PrintsIs
  dsimp only
  rw [errV_ne hc]
  rw [errV_ne hc] at HCH
  clear hr hok ht hpr hc
  generalize chk l = c at *
  go_enter Tryz.func45,Tryz.ntmps45
  go_wp2_with fail
  refine HCH.out.mono ?_
  rintro e w1 ⟨rfl,hb1⟩
  go_wp2_with fail
  go_ret2
  exact ⟨rfl,hb1⟩
end Go.Proofs.YthhcpbfgoofppaaGreatDoor
