/-
  KnotA, KnotB.
-/
import Derived.Test.YthhcpbfgoofppaaGreatDoorMap
import Derived.Test.YthhcpbfgoofppaaGreatDoorPk
import Derived.LaidEqlPtr
import Derived.Lib.Builder
set_option linter.unusedVariables false
set_option linter.unusedSimpArgs false
set_option maxRecDepth 100000
set_option maxHeartbeats 4000000
open Go.Lib (hid)
namespace Wf
structure Kn where
 b : Nat
 m : Nat
 u : List UInt8
deriving DecidableEq
def upd {β : Type} (f : Kn → β) (k : Kn) (v : β) : Kn → β:=fun x => if x = k then v else f x
theorem upd_same {β : Type} (f : Kn → β) (k : Kn) (v : β) : upd f k v k = v:=if_pos rfl
theorem upd_other {β : Type} (f : Kn → β) {k x : Kn} (v : β) (h : x ≠ k) : upd f k v x = f x:=if_neg h
end Wf
namespace Go.Proofs.YthhcpbfgoofppaaGreatDoor
open Go.RowKit Wf
def kptr (b : Nat) : Value:=.pointer (some ⟨b,0,none⟩)
def byteW (c : Nat) : Value:=.int .u8 (c : Int)
structure Net (w0 : World) (Nb : Nat) (wv : Value) (root : Kn) (Ks : List Kn) (bk ev : Kn → Value) (ch : Kn → List (Nat × Value)) (w : World) : Prop where
 net : Blk w Nb 222 #[kptr root.b,wv]
 onb : w0.heap.size ≤ Nb
 rt : root ∈ Ks
 ru : root.u = []
 blk : ∀ k ∈ Ks,Blk w k.b 220 #[.map (some k.m),bk k,ev k]
 mp : ∀ k ∈ Ks,Mp w k.m byteW (ch k)
 ob : ∀ k ∈ Ks,w0.heap.size ≤ k.b
 om : ∀ k ∈ Ks,w0.heap.size ≤ k.m
 ib : ∀ s ∈ Ks,∀ t ∈ Ks,s.b = t.b → s = t
 im : ∀ s ∈ Ks,∀ t ∈ Ks,s.m = t.m → s = t
 iu : ∀ s ∈ Ks,∀ t ∈ Ks,s.u = t.u → s = t
 kids : ∀ k ∈ Ks,∀ c v,getL (ch k) c = some v → ∃ t ∈ Ks,v = kptr t.b ∧ c < 256 ∧ t.u = k.u ++ [UInt8.ofNat c]
 all : ∀ k ∈ Ks,∀ t ∈ Ks,∀ c,c < 256 → t.u = k.u ++ [UInt8.ofNat c] → getL (ch k) c = some (kptr t.b)
 par : ∀ t ∈ Ks,t.u ≠ [] → ∃ s ∈ Ks,∃ c,c < 256 ∧ t.u = s.u ++ [UInt8.ofNat c]
 keep : Below w0.heap.size w0 w
variable {w0 w w' : World} {Nb : Nat} {wv : Value} {root k : Kn} {Ks : List Kn} {bk ev : Kn → Value} {ch : Kn → List (Nat × Value)} {row : Option Nat}
theorem blk_grown {g : Nat} {t : TypeId} {cs : Array Value} (h : Blk w g t cs) (hg : w.grownBy w' row) (hn : some g ≠ row) : Blk w' g t cs:=(hg.block g h.lt hn).trans h
theorem blk_not_map {g : Nat} {t : TypeId} {cs : Array Value} {l : List (Nat × Value)} (h : Blk w g t cs) (hm : Mp w g byteW l) : False:=by
 obtain ⟨es,clock,hb,_⟩:=hm
 unfold Blk at h
 rw [h] at hb
 cases hb
theorem blk_type {g : Nat} {t t' : TypeId} {cs cs' : Array Value} (h : Blk w g t cs) (h' : Blk w g t' cs') : t = t':=by
 unfold Blk at h h'
 rw [h] at h'
 cases h'
 rfl
theorem net_knot : 222 ≠ 220:=by decide
theorem Net.grown (h : Net w0 Nb wv root Ks bk ev ch w) (hg : w.grownBy w' row) (hr : ∀ g,row = some g → w0.heap.size ≤ g) (h1 : some Nb ≠ row) (h2 : ∀ k ∈ Ks,some k.b ≠ row ∧ some k.m ≠ row) : Net w0 Nb wv root Ks bk ev ch w' :=
 ⟨blk_grown h.net hg h1,h.onb,h.rt,h.ru,fun k hk => blk_grown (h.blk k hk) hg (h2 k hk).1,fun k hk => (h.mp k hk).kept hg (h2 k hk).2,h.ob,h.om,h.ib,h.im,h.iu,h.kids,h.all,h.par,h.keep.grown hg h.keep.size (fun g hgr => hr g hgr)⟩
theorem Net.below (h : Net w0 Nb wv root Ks bk ev ch w) (hb : Below w.heap.size w w') : Net w0 Nb wv root Ks bk ev ch w' :=
 h.grown (row:=none) ⟨hb.os,hb.tape,hb.output,hb.size,fun i hi _ => hb.block i hi⟩ (fun _ e => by cases e) (by simp) (fun _ _ => by simp)
theorem grown_setK (w : World) (x : Addr) (u : Value) : w.grownBy (w.setCell x u) (some x.block) :=
 ⟨rfl,rfl,rfl,by simp,fun i _ hn => Below.heap_setCell w x u i (fun e => hn (by rw [e]))⟩
theorem Net.setBack (h : Net w0 Nb wv root Ks bk ev ch w) (hk : k ∈ Ks) (v : Value) : Net w0 Nb wv root Ks (upd bk k v) ev ch (w.setCell ⟨k.b,1,none⟩ v):=by
 have hg:=grown_setK w ⟨k.b,1,none⟩ v
 have hm : ∀ s ∈ Ks,some s.m ≠ some k.b:=fun s hs e => blk_not_map (h.blk k hk) (by have:=h.mp s hs;rw [Option.some.inj e] at this;exact this)
 refine ⟨blk_grown h.net hg (fun e => ?_),h.onb,h.rt,h.ru,fun s hs => ?_,fun s hs => (h.mp s hs).kept hg (hm s hs),h.ob,h.om,h.ib,h.im,h.iu,h.kids,h.all,h.par,h.keep.grown hg h.keep.size (fun g e => by cases e;exact h.ob k hk)⟩
 ·have hn:=h.net
  rw [Option.some.inj e] at hn
  exact net_knot (blk_type hn (h.blk k hk))
 ·by_cases e : s = k
  ·subst e
   rw [upd_same]
   exact (h.blk s hs).set_ 1 v
  ·rw [upd_other _ _ e]
   exact (h.blk s hs).far (fun e' => e (h.ib s hs k hk e')) v
theorem Net.setEnds (h : Net w0 Nb wv root Ks bk ev ch w) (hk : k ∈ Ks) (v : Value) : Net w0 Nb wv root Ks bk (upd ev k v) ch (w.setCell ⟨k.b,2,none⟩ v):=by
 have hg:=grown_setK w ⟨k.b,2,none⟩ v
 have hm : ∀ s ∈ Ks,some s.m ≠ some k.b:=fun s hs e => blk_not_map (h.blk k hk) (by have:=h.mp s hs;rw [Option.some.inj e] at this;exact this)
 refine ⟨blk_grown h.net hg (fun e => ?_),h.onb,h.rt,h.ru,fun s hs => ?_,fun s hs => (h.mp s hs).kept hg (hm s hs),h.ob,h.om,h.ib,h.im,h.iu,h.kids,h.all,h.par,h.keep.grown hg h.keep.size (fun g e => by cases e;exact h.ob k hk)⟩
 ·have hn:=h.net
  rw [Option.some.inj e] at hn
  exact net_knot (blk_type hn (h.blk k hk))
 ·by_cases e : s = k
  ·subst e
   rw [upd_same]
   exact (h.blk s hs).set_ 2 v
  ·rw [upd_other _ _ e]
   exact (h.blk s hs).far (fun e' => e (h.ib s hs k hk e')) v
theorem byte_inj {a b : Nat} (ha : a < 256) (hb : b < 256) (h : UInt8.ofNat a = UInt8.ofNat b) : a = b:=by
 have:=congrArg UInt8.toNat h
 simp at this
 omega
theorem snoc_inj {a b : List UInt8} {x y : UInt8} (h : a ++ [x] = b ++ [y]) : a = b ∧ x = y:=by
 have:=List.append_inj' h rfl
 simpa using this
theorem Net.insert (h : Net w0 Nb wv root Ks bk ev ch w) (hk : k ∈ Ks) {c : Nat} (hc : c < 256) (hn : getL (ch k) c = none) {w1 w' : World}
 (hw1 : w1 = (w.alloc (.map #[] 0)).alloc (.cells #[.map (some w.heap.size),.pointer none,.slice none 0 0] 220)) {t : Kn} (ht : t = ⟨w.heap.size + 1,w.heap.size,k.u ++ [UInt8.ofNat c]⟩)
 (hmp : Mp w' k.m byteW (putL (ch k) c (kptr t.b))) (hg : w1.grownBy w' (some k.m)) :
 Net w0 Nb wv root (t :: Ks) (upd bk t (.pointer none)) (upd ev t (.slice none 0 0)) (upd (upd ch t []) k (putL (ch k) c (kptr t.b))) w' ∧ t ∉ Ks:=by
 have hlt : ∀ s ∈ Ks,s.b < w.heap.size ∧ s.m < w.heap.size:=fun s hs => ⟨(h.blk s hs).lt,(h.mp s hs).lt⟩
 have htn : t ∉ Ks:=fun hm => by have h':=(hlt t hm).1;rw [ht] at h';exact absurd h' (by show ¬ (w.heap.size + 1 < w.heap.size);omega)
 have hne : ∀ s ∈ Ks,s ≠ t:=fun s hs e => htn (e ▸ hs)
 have hb1 : Below w.heap.size w w1:=by rw [hw1];exact ((Below.refl _ _).alloc (Nat.le_refl _) _).alloc (by simp) _
 have h1:=h.below hb1
 have hsz : w1.heap.size = w.heap.size + 2:=by rw [hw1];simp
 have hmt : Mp w1 w.heap.size byteW []:=by rw [hw1];exact (Mp.new w byteW).below ((Below.refl _ _).alloc (Nat.le_refl _) _)
 have hbt : Blk w1 (w.heap.size + 1) 220 #[.map (some w.heap.size),.pointer none,.slice none 0 0]:=by
  rw [hw1]
  have:=Blk.new (w.alloc (.map #[] 0)) 220 #[.map (some w.heap.size),.pointer none,.slice none 0 0]
  simpa using this
 have hkm : ∀ s ∈ Ks,some s.b ≠ some k.m:=fun s hs e => blk_not_map (h.blk s hs) (by have:=h.mp k hk;rw [← Option.some.inj e] at this;exact this)
 have hno : ∀ s ∈ Ks,s.u ≠ k.u ++ [UInt8.ofNat c]:=fun s hs e => by
  have:=h.all k hk s hs c hc e
  rw [hn] at this
  cases this
 have hkt : k ≠ t:=hne k hk
 refine ⟨⟨blk_grown h1.net hg (fun e => blk_not_map h1.net (by have:=h1.mp k hk;rw [← Option.some.inj e] at this;exact this)),h.onb,List.mem_cons_of_mem _ h.rt,h.ru,?_,?_,?_,?_,?_,?_,?_,?_,?_,?_,?_⟩,htn⟩
 ·intro s hs
  rcases List.mem_cons.1 hs with e | hs
  ·subst e
   rw [upd_same,upd_same,ht]
   exact blk_grown hbt hg (fun e => by have h1:=(hlt k hk).2;have h2 : w.heap.size + 1 = k.m:=Option.some.inj e;omega)
  ·rw [upd_other _ _ (hne s hs),upd_other _ _ (hne s hs)]
   exact blk_grown (h1.blk s hs) hg (hkm s hs)
 ·intro s hs
  rcases List.mem_cons.1 hs with e | hs
  ·rw [e,upd_other _ _ hkt.symm,upd_same,ht]
   exact hmt.kept hg (fun e => by have h1:=(hlt k hk).2;have h2 : w.heap.size = k.m:=Option.some.inj e;omega)
  ·by_cases e : s = k
   ·rw [e,upd_same];exact hmp
   ·rw [upd_other _ _ e,upd_other _ _ (hne s hs)]
    exact (h1.mp s hs).kept hg (fun e' => e (h.im s hs k hk (Option.some.inj e')))
 ·intro s hs
  rcases List.mem_cons.1 hs with e | hs
  ·rw [e,ht];exact Nat.le_succ_of_le h.keep.size
  ·exact h.ob s hs
 ·intro s hs
  rcases List.mem_cons.1 hs with e | hs
  ·rw [e,ht];exact h.keep.size
  ·exact h.om s hs
 ·intro s hs r hr e
  rcases List.mem_cons.1 hs with es | hs <;> rcases List.mem_cons.1 hr with er | hr
  ·rw [es,er]
  ·rw [es,ht] at e;have:=(hlt r hr).1;replace e : w.heap.size + 1 = r.b:=e;omega
  ·rw [er,ht] at e;have:=(hlt s hs).1;replace e : s.b = w.heap.size + 1:=e;omega
  ·exact h.ib s hs r hr e
 ·intro s hs r hr e
  rcases List.mem_cons.1 hs with es | hs <;> rcases List.mem_cons.1 hr with er | hr
  ·rw [es,er]
  ·rw [es,ht] at e;have:=(hlt r hr).2;replace e : w.heap.size = r.m:=e;omega
  ·rw [er,ht] at e;have:=(hlt s hs).2;replace e : s.m = w.heap.size:=e;omega
  ·exact h.im s hs r hr e
 ·intro s hs r hr e
  rcases List.mem_cons.1 hs with es | hs <;> rcases List.mem_cons.1 hr with er | hr
  ·rw [es,er]
  ·rw [es,ht] at e;exact absurd e.symm (hno r hr)
  ·rw [er,ht] at e;exact absurd e (hno s hs)
  ·exact h.iu s hs r hr e
 ·intro s hs a v hv
  rcases List.mem_cons.1 hs with es | hs
  ·rw [es,upd_other _ _ hkt.symm,upd_same] at hv
   cases hv
  ·by_cases e : s = k
   ·rw [e,upd_same,getL_put] at hv
    split at hv
    ·rename_i ea
     cases hv
     exact ⟨t,List.mem_cons_self ..,rfl,by rw [ea];exact hc,by rw [e,ea,ht]⟩
    ·obtain ⟨r,hr,h1,h2,h3⟩:=h.kids k hk a v hv
     exact ⟨r,List.mem_cons_of_mem _ hr,h1,h2,by rw [e];exact h3⟩
   ·rw [upd_other _ _ e,upd_other _ _ (hne s hs)] at hv
    obtain ⟨r,hr,h1,h2,h3⟩:=h.kids s hs a v hv
    exact ⟨r,List.mem_cons_of_mem _ hr,h1,h2,h3⟩
 ·intro s hs r hr a ha e
  rcases List.mem_cons.1 hs with es | hs <;> rcases List.mem_cons.1 hr with er | hr
  ·exfalso
   rw [er,es] at e
   have:=congrArg List.length e
   simp at this
  ·exfalso
   rw [es,ht] at e
   obtain ⟨q,hq,x,hx,hqe⟩:=h.par r hr (by rw [e];simp)
   rw [e] at hqe
   exact hno q hq (snoc_inj hqe).1.symm
  ·rw [er,ht] at e
   obtain ⟨e1,e2⟩:=snoc_inj e
   have hsk:=h.iu s hs k hk e1.symm
   have hac:=byte_inj hc ha e2
   rw [hsk,upd_same,getL_put,if_pos hac.symm,er]
  ·by_cases e' : s = k
   ·rw [e',upd_same,getL_put,if_neg]
    ·exact h.all k hk r hr a ha (by rw [← e'];exact e)
    ·rintro rfl
     exact hno r hr (by rw [e,e'])
   ·rw [upd_other _ _ e',upd_other _ _ (hne s hs)]
    exact h.all s hs r hr a ha e
 ·intro s hs hse
  rcases List.mem_cons.1 hs with es | hs
  ·exact ⟨k,List.mem_cons_of_mem _ hk,c,hc,by rw [es,ht]⟩
  ·obtain ⟨q,hq,x,hx,hqe⟩:=h.par s hs hse
   exact ⟨q,List.mem_cons_of_mem _ hq,x,hx,hqe⟩
 ·exact h1.keep.grown hg h1.keep.size (fun g e => by cases e;exact h.om k hk)
end Go.Proofs.YthhcpbfgoofppaaGreatDoor
namespace Go.Proofs.YthhcpbfgoofppaaGreatDoor
open Go.RowKit Wf
theorem byte_keyW : KeyK Tryz.prog 5 byteW:=byte_key Tryz.underlying5
theorem zero_knot (w : World) : (zeroValue 217).run Tryz.prog w = .ok (.pointer none) w:=by kernel_rfl
theorem knot_info : ∃ j,Tryz.prog.info? 220 = some j ∧ j.size ≠ 0:=by
 have h : (Tryz.prog.info? 220).map (fun i => i.size) = some 3:=by kernel_rfl
 cases hi : Tryz.prog.info? 220 with
 | none => rw [hi] at h;cases h
 | some j =>
   rw [hi] at h
   have h' : j.size = 3:=Option.some.inj h
   exact ⟨j,rfl,by omega⟩
theorem knot_same (a : Addr) (w : World) : (binOp .neq 217 (.pointer (some a)) (.pointer (some a))).run Tryz.prog w = .ok (.bool false) w:=by
 obtain ⟨j,hj,_⟩:=knot_info
 exact Lib.run_neq_ptr_same w a Tryz.underlying217 hj
theorem knot_other {a b : Addr} {ca cb : Array Value} {ta tb : TypeId} (w : World) (hne : a ≠ b) (ha : w.heap[a.block]? = some (.cells ca ta (0,0))) (hb : w.heap[b.block]? = some (.cells cb tb (0,0))) :
 (binOp .neq 217 (.pointer (some a)) (.pointer (some b))).run Tryz.prog w = .ok (.bool true) w:=by
 obtain ⟨j,hj,hsz⟩:=knot_info
 have h : ∀ d : Nat,(Op.equalIn (d + 1) 217 (.pointer (some a)) (.pointer (some b))).run Tryz.prog w = .ok false w:=fun d => by
  simp [Op.equalIn,run_underlying Tryz.underlying217,sizeOf,typeInfo,hj,hsz,run_sameAddr_other w hne ha hb]
 simp only [binOp]
 simp [Op.equal,Op.maxDepth,h 9999]
structure Tie (ws : List (List UInt8)) (Ks : List Kn) (bk : Kn → Value) (Td : Kn → Prop) : Prop where
 knots : ∀ u,Knot ws u ↔ ∃ k ∈ Ks,k.u = u
 back : ∀ s ∈ Ks,Td s → ∃ t ∈ Ks,Td t ∧ bk s = kptr t.b ∧ Bk ws s.u t.u
def StepIs (ws : List (List UInt8)) (Ks : List Kn) (k : Kn) (t : List UInt8) (c : Nat) (w : World) (e : Ending) (w' : World) : Prop :=
 ∃ r : Kn,e = .returned (kptr r.b) ∧ r ∈ Ks ∧ LongSuf ws (t ++ [UInt8.ofNat c]) r.u ∧ r.u.length ≤ k.u.length + 1 ∧ w = w'
variable {w0 w : World} {Nb : Nat} {wv : Value} {root k : Kn} {Ks : List Kn} {bk ev : Kn → Value} {ch : Kn → List (Nat × Value)} {ws : List (List UInt8)} {Td : Kn → Prop}
theorem step_c (h : Net w0 Nb wv root Ks bk ev ch w) (ht : Tie ws Ks bk Td) (hk : k ∈ Ks) (hd : Td k) (t : List UInt8) (hl : LongSuf ws t k.u) (c : Nat) (hc : c < 256) :
 Calls Tryz.prog 126 #[.pointer (some ⟨Nb,0,none⟩),.pointer (some ⟨k.b,0,none⟩),.int .u8 (c : Int)] w (StepIs ws Ks k t c w):=by
 have HN:=hid h
 have HT:=hid ht
 have n0 : w.cell? ⟨Nb,0,none⟩ = some (.pointer (some ⟨root.b,0,none⟩)):=h.net.cell 0
 have HSTART : Hid (k ∈ Ks ∧ Td k ∧ InStep (ws:=ws) t (UInt8.ofNat c) k.u):=hid ⟨hk,hd,hl.step _⟩
 clear h ht hk hd hl
 unfold StepIs
 go_enter Tryz.func126,Tryz.ntmps126
 go_wp2
 go_loopg [1] (k.u.length + 1) (fun gk v1 wr => ∃ s : Kn,v1 = .pointer (some ⟨s.b,0,none⟩) ∧ s.u.length ≤ k.u.length ∧ Hid (s ∈ Ks ∧ Td s ∧ InStep (ws:=ws) t (UInt8.ofNat c) s.u) ∧ Hid (w = wr) ∧ Hid (s.u.length < gk))
 case atStart => exact ⟨k,rfl,Nat.le_refl _,HSTART,hid rfl,hid (Nat.lt_succ_self _)⟩
 case round =>
  obtain ⟨s,rfl,hle,HS,HW,HG⟩:=hrel
  obtain ⟨hsk,hst,hin⟩:=HS.out
  have hNr : Net w0 Nb wv root Ks bk ev ch wr:=by rw [← HW.out];exact HN.out
  have n0 : wr.cell? ⟨Nb,0,none⟩ = some (.pointer (some ⟨root.b,0,none⟩)):=hNr.net.cell 0
  have x0 : wr.cell? ⟨s.b,0,none⟩ = some (.map (some s.m)):=(hNr.blk s hsk).cell 0
  have hmp:=hNr.mp s hsk
  cases hg : getL (ch s) c with
  | some v =>
    have hlk:=hmp.look_some byte_keyW Tryz.underlying218 hg false
    obtain ⟨r,hr,rfl,_,hru⟩:=hNr.kids s hsk c v hg
    have HR : Hid (r ∈ Ks ∧ LongSuf ws (t ++ [UInt8.ofNat c]) r.u ∧ r.u.length ≤ k.u.length + 1):=hid ⟨hr,by rw [hru];exact hin.done ((HT.out.knots _).2 ⟨r,hr,hru⟩),by rw [hru];simp;omega⟩
    unfold kptr byteW at hlk
    simp only [Bool.false_eq_true,if_false] at hlk
    clear hg hr hru hmp hNr hsk hst hin hle
    go_wp2
    go_ret
    exact ⟨r,rfl,HR.out.1,HR.out.2.1,HR.out.2.2,HW.out⟩
  | none =>
    have hlk:=hmp.look_none byte_keyW Tryz.underlying218 (zero_knot wr) hg false
    have hnk : ¬ Knot ws (s.u ++ [UInt8.ofNat c]):=fun hkn => by
     obtain ⟨r,hr,hru⟩:=(HT.out.knots _).1 hkn
     have:=hNr.all s hsk r hr c hc hru
     rw [hg] at this
     cases this
    unfold byteW at hlk
    simp only [Bool.false_eq_true,if_false] at hlk
    by_cases hrt : s = root
    ·subst hrt
     have HR : Hid (s ∈ Ks ∧ LongSuf ws (t ++ [UInt8.ofNat c]) s.u ∧ s.u.length ≤ k.u.length + 1):=hid ⟨hsk,by
      rw [hNr.ru] at hin hnk ⊢
      exact hin.none hnk,by omega⟩
     have hpe:=knot_same ⟨s.b,0,none⟩ wr
     clear hg hmp hNr hsk hst hin hle hnk
     go_wp2
     go_ret
     exact ⟨s,rfl,HR.out.1,HR.out.2.1,HR.out.2.2,HW.out⟩
    ·have hbne : s.b ≠ root.b:=fun e => hrt (hNr.ib s hsk root hNr.rt e)
     obtain ⟨r,hr,hrd,hbk,hB⟩:=HT.out.back s hsk hst
     have x1 : wr.cell? ⟨s.b,1,none⟩ = some (.pointer (some ⟨r.b,0,none⟩)):=by
      have:=(hNr.blk s hsk).cell 1
      rw [hbk] at this
      exact this
     have hun : s.u ≠ []:=fun e => hrt (hNr.iu s hsk root hNr.rt (e.trans hNr.ru.symm))
     have hlt:=hB.lt hun
     have HR : Hid (r ∈ Ks ∧ Td r ∧ InStep (ws:=ws) t (UInt8.ofNat c) r.u):=hid ⟨hr,hrd,hin.back hnk hB⟩
     have hrl : r.u.length ≤ k.u.length:=by omega
     have HGR : Hid (r.u.length < gk - 1):=hid (by have:=HG.out;omega)
     have hg0 : 0 < gk:=by have:=HG.out;omega
     have hpe:=knot_other (a:=⟨s.b,0,none⟩) (b:=⟨root.b,0,none⟩) wr (fun e => hbne (congrArg Addr.block e)) (hNr.blk s hsk) (hNr.blk root hNr.rt)
     clear hg hmp hNr hsk hst hin hle hnk hrt hun hlt hr hrd hbk hB
     go_wp2
     go_roundg (gk - 1)
     case rel => exact ⟨r,rfl,hrl,HR,HW,HGR⟩
     all_goals omega
end Go.Proofs.YthhcpbfgoofppaaGreatDoor
