/-
  RunW, RunI, RunJ, RunX.
-/
import Derived.Test.YthhcpbfgoofppaaGreatDoorGPrt
import Derived.Test.YthhcpbfgoofppaaGreatDoorGRm
import Derived.Test.YthhcpbfgoofppaaGreatDoorGSetC
import Derived.Test.YthhcpbfgoofppaaGreatDoorGSetF
import Derived.Test.YthhcpbfgoofppaaGreatDoorGSetI
import Derived.Test.YthhcpbfgoofppaaGreatDoorSynJ
import Derived.Deep.RegionHeld3
set_option linter.unusedVariables false
set_option linter.unusedSimpArgs false
set_option maxRecDepth 100000
set_option maxHeartbeats 8000000
open Go.Lib (hid)
namespace Wf
theorem words_put (l : List (List UInt8)) : ∀ s : List UInt8,0 < s.length → l.foldl putW s = s ++ Go.Lib.joinTail [32] l:=by
 induction l with
 | nil => intro s _;simp [Go.Lib.joinTail]
 | cons x l ih =>
   intro s hs
   have h1 : putW s x = s ++ ([32] ++ x):=by unfold putW;rw [if_pos hs,List.append_assoc]
   rw [List.foldl_cons,ih _ (by rw [h1];simp;omega),h1]
   simp [Go.Lib.joinTail]
theorem words_join {l : List (List UInt8)} (h : ∀ x ∈ l,0 < x.length) : Go.Lib.join l [32] = wordsW l:=by
 cases l with
 | nil => rfl
 | cons x r =>
   have hx:=h x List.mem_cons_self
   rw [Go.Lib.join_cons]
   show _ = r.foldl putW (putW [] x)
   have h1 : putW [] x = x:=rfl
   rw [h1,words_put r x hx]
theorem words_pos {l : List (List UInt8)} (h : ∀ x ∈ l,0 < x.length) (h0 : l ≠ []) : orNoneW (wordsW l) = wordsW l:=by
 cases l with
 | nil => exact absurd rfl h0
 | cons x r =>
   have hx:=h x List.mem_cons_self
   unfold orNoneW
   rw [if_neg]
   show ¬ (r.foldl putW (putW [] x)).length = 0
   have h1 : putW [] x = x:=rfl
   rw [h1,words_put r x hx,List.length_append]
   omega
end Wf
namespace Go.Proofs.YthhcpbfgoofppaaGreatDoor.setW
open Go.RowKit Wf
set_option linter.unusedVariables false
theorem words_items (xs : List Mb) (hx : xs.length ≤ 4812) (K : Nat) (hK : K ≤ 300) (f : Mb → List UInt8) (hf : ∀ x ∈ xs,0 < (f x).length ∧ (f x).length ≤ K) (pb : Nat) (v : Value) (w : World) (hr : Rd w 2 v (xs.flatMap itCells))
 (HF : Hid (∀ (k : Nat) (x : Mb),xs[k]? = some x → ∀ W,Below w.heap.size w W → Calls Tryz.prog 18 #[.agg #[.pointer (some ⟨pb,0,none⟩)],.agg #[.int .i64 (x.id : Int),.string x.text]] W (fun e w' => ∃ t : ByteArray,e = .returned (.string t) ∧ t.data.toList = f x ∧ Below W.heap.size W w'))) :
 Calls Tryz.prog 16 #[v,.func (.func 18) #[.agg #[.pointer (some ⟨pb,0,none⟩)]] #[]] w (fun e w' => ∃ t : ByteArray,e = .returned (.string t) ∧ t.data.toList = orNoneW (wordsW (xs.map f)) ∧ Below w.heap.size w w'):=by
 obtain ⟨i0,hi0,hz0,hz1,hz2⟩:=info_parts info_str
 obtain ⟨Ao,cap,rfl,hc1,hc2,hmem⟩:=it_open hr
 clear hr
 by_cases h0 : xs.length = 0
 ·obtain rfl:=List.length_eq_zero_iff.1 h0
  have d1 : ((([] : List Mb).length : Int) == 0) = true:=rfl
  clear HF hmem
  go_enter Tryz.func16,Tryz.ntmps16
  go_wp2_with fail
  go_ret
  exact ⟨_,rfl,rfl,Below.refl _ _⟩
 ·have hpos : 0 < xs.length:=by omega
  obtain ⟨bs,os,rfl,hbs,hcs⟩:=hmem hpos
  have HCS:=hid hcs
  have hfw : ∀ x ∈ xs.map f,0 < x.length ∧ x.length ≤ K:=fun y hy => by
   obtain ⟨x,hx,rfl⟩:=List.mem_map.1 hy
   exact hf x hx
  have HEND : Hid (Go.Lib.join (xs.map f) [32] = orNoneW (wordsW (xs.map f))):=hid (by
   rw [words_pos (fun x hx => (hfw x hx).1) (by intro e;rw [List.map_eq_nil_iff] at e;rw [e] at hpos;cases hpos),words_join (fun x hx => (hfw x hx).1)])
  have HJL : Hid ((Go.Lib.join (xs.map f) [32]).length ≤ 140737488355328):=hid (by
   have h1:=join_le [32] K (xs.map f) (fun x hx => (hfw x hx).2)
   rw [List.length_map] at h1
   have h2 : xs.length * (K + [32].length) ≤ 4812 * 301:=Nat.mul_le_mul hx (by simp;omega)
   omega)
  have d1 : ((xs.length : Int) == 0) = false:=by rw [beq_eq_false_iff_ne];omega
  obtain ⟨R,hR⟩ : ∃ R,R = orNoneW (wordsW (xs.map f)):=⟨_,rfl⟩
  rw [← hR] at HEND ⊢
  clear hR hfw hf hcs hmem h0
  go_enter Tryz.func16,Tryz.ntmps16
  go_wp2_with fail
  go_loopw [5,13] (fun v5 v13 wr => ∃ (k : Nat) (ts : List ByteArray),k ≤ xs.length ∧ v13 = .int .i64 (k : Int) ∧ Hid (ts.map (·.data.toList) = (xs.take k).map f) ∧ Hid (wr.ownsRow w.heap.size 9 1 v5 k (strVals ts)) ∧ Hid (Below w.heap.size w wr)) (fun _ i _ => xs.length - (intOf i).toNat)
  case atStart => exact ⟨0,[],by omega,rfl,hid rfl,hid (World.ownsRow_nil _ _ _ _),hid (Below.refl _ _)⟩
  case round =>
   obtain ⟨k,ts,hk,rfl,HT,HO,HB⟩:=hrel
   have hsz:=HB.out.size
   by_cases hlt : k < xs.length
   ·have hi : xs[k]? = some (xs[k]'hlt):=List.getElem?_eq_getElem hlt
    generalize xs[k]'hlt = q at hi
    obtain ⟨id,tx,tr⟩:=q
    obtain ⟨m0,m1⟩:=HCS.out wr (fun o => HB.out.cell (p:=⟨bs,o,none⟩) hbs) k ⟨id,tx,tr⟩ hi
    have hba : Below wr.heap.size wr (wr.alloc (.cells #[.int .i64 (id : Int),.string tx] 53)):=(Below.refl _ _).alloc (Nat.le_refl _) _
    have HC:=hid (HF.out k _ hi _ (HB.out.trans (hba.mono hsz)))
    have HBA:=hid hba
    have HTK : Hid (xs.take (k + 1) = xs.take k ++ [⟨id,tx,tr⟩]):=hid (take_snoc hi)
    have k0 : (0 : Int) ≤ (k : Int):=by omega
    have k1 : (k : Int) < (xs.length : Int):=by omega
    clear hi hba
    dsimp only at HC
    go_wp2_with fail
    refine HC.out.mono ?_
    rintro e w2 ⟨t,rfl,ht,hb2⟩
    have HT2 : Hid ((ts ++ [t]).map (·.data.toList) = (xs.take (k + 1)).map f):=hid (by rw [HTK.out,List.map_append,List.map_append,HT.out,List.map_cons,List.map_cons,ht];rfl)
    have HBW : Hid (Below w.heap.size w w2):=hid ((HB.out.trans (HBA.out.mono hsz)).trans (hb2.mono (by have:=HBA.out.size;omega)))
    have HO2 : Hid (w2.ownsRow w.heap.size 9 1 u5 k (strVals ts)):=hid (own_low (own_low HO.out HBA.out) hb2)
    have HX : Hid (strVals (ts ++ [t]) = strVals ts ++ [.string t]):=hid (strVals_snoc _ _)
    have hsz2:=HBW.out.size
    clear ht hb2 HTK HC
    generalize strVals ts = vs at *
    go_wp2_with (at_builtin;refine wpList_append_own _ rfl (.tmp 17) (.tmp 21) _ rfl w.heap.size 9 i0 _ 1 16 Tryz.underlying94 hi0 hz0 hz1 hz2 rfl (by omega) _ k vs rfl (HO2.out.alloc _) ⟨w2.heap.size,0,none⟩ 1 1 [.string t] rfl rfl (new_one _ _ _ _ rfl) (by intro u hu;simp at hu;subst hu;rfl) (by unfold maxLen;omega) (by omega) (by simp;omega) ?_)
    intro v' w' hown' hg' _
    have HBN:=hid (below_own (HBW.out.alloc hsz2 _) (Nat.le_refl _) (by simp;omega) (HO2.out.alloc _) hg')
    have HON : Hid (w'.ownsRow w.heap.size 9 1 v' (k + 1) (strVals (ts ++ [t]))):=hid (by rw [HX.out];exact hown')
    clear hown' hg'
    go_wp2_with fail
    go_roundw
    case rel => exact ⟨k + 1,ts ++ [t],by omega,by go_num,HT2,HON,HBN⟩
    case measure => simp [intOf];omega
   ·obtain rfl : k = xs.length:=by omega
    have hT:=HT.out
    rw [List.take_length] at hT
    have htl : ts.length = xs.length:=by have:=congrArg List.length hT;simpa using this
    obtain ⟨A',cap',hv,hq1,hq2,hq3⟩:=str_open (Rd.of_own HO.out)
    obtain ⟨bk,off,rfl,hbk,hcl⟩:=hq3 (by omega)
    rw [htl] at hv
    subst hv
    have HJ : Hid (Calls Tryz.prog 44 #[.slice (some ⟨bk,off,none⟩) xs.length cap',.string ⟨#[32]⟩] wr (fun e w' => e = .returned (.string ⟨R.toArray⟩) ∧ Below wr.heap.size wr w')):=hid (by
     have:=Join_c bk off cap' ts ⟨#[32]⟩ wr (fun j x hj => hcl wr (fun _ => rfl) j x hj) hbk (by omega) hq1 (by rw [hT];exact HJL.out)
     rw [hT,htl,show (⟨#[32]⟩ : ByteArray).data.toList = [32] from rfl,HEND.out] at this
     exact this)
    clear hcl hT HEND HJL htl hq1 hq3
    go_wp2_with fail
    refine HJ.out.mono ?_
    rintro e w2 ⟨rfl,hb2⟩
    have HB2:=hid (HB.out.trans (hb2.mono hsz))
    clear hb2
    go_wp2_with fail
    go_ret
    exact ⟨_,rfl,rfl,HB2.out⟩
theorem words_hits (xs : List (Nat × Nat × Nat)) (hx : xs.length ≤ 4812) (K : Nat) (hK : K ≤ 300) (f : (Nat × Nat × Nat) → List UInt8) (hf : ∀ x ∈ xs,0 < (f x).length ∧ (f x).length ≤ K) (v : Value) (w : World) (hr : Rd w 3 v (xs.flatMap hitCells))
 (HF : Hid (∀ (k : Nat) (x : (Nat × Nat × Nat)),xs[k]? = some x → ∀ W,Below w.heap.size w W → Calls Tryz.prog 27 #[.agg #[.int .i64 (x.1 : Int),.int .i64 (x.2.1 : Int),.int .i64 (x.2.2 : Int)]] W (fun e w' => ∃ t : ByteArray,e = .returned (.string t) ∧ t.data.toList = f x ∧ Below W.heap.size W w'))) :
 Calls Tryz.prog 28 #[v,.func (.func 27) #[] #[]] w (fun e w' => ∃ t : ByteArray,e = .returned (.string t) ∧ t.data.toList = orNoneW (wordsW (xs.map f)) ∧ Below w.heap.size w w'):=by
 obtain ⟨i0,hi0,hz0,hz1,hz2⟩:=info_parts info_str
 obtain ⟨Ao,cap,rfl,hc1,hc2,hmem⟩:=hit_open hr
 clear hr
 by_cases h0 : xs.length = 0
 ·obtain rfl:=List.length_eq_zero_iff.1 h0
  have d1 : ((([] : List (Nat × Nat × Nat)).length : Int) == 0) = true:=rfl
  clear HF hmem
  go_enter Tryz.func28,Tryz.ntmps28
  go_wp2_with fail
  go_ret
  exact ⟨_,rfl,rfl,Below.refl _ _⟩
 ·have hpos : 0 < xs.length:=by omega
  obtain ⟨bs,os,rfl,hbs,hcs⟩:=hmem hpos
  have HCS:=hid hcs
  have hfw : ∀ x ∈ xs.map f,0 < x.length ∧ x.length ≤ K:=fun y hy => by
   obtain ⟨x,hx,rfl⟩:=List.mem_map.1 hy
   exact hf x hx
  have HEND : Hid (Go.Lib.join (xs.map f) [32] = orNoneW (wordsW (xs.map f))):=hid (by
   rw [words_pos (fun x hx => (hfw x hx).1) (by intro e;rw [List.map_eq_nil_iff] at e;rw [e] at hpos;cases hpos),words_join (fun x hx => (hfw x hx).1)])
  have HJL : Hid ((Go.Lib.join (xs.map f) [32]).length ≤ 140737488355328):=hid (by
   have h1:=join_le [32] K (xs.map f) (fun x hx => (hfw x hx).2)
   rw [List.length_map] at h1
   have h2 : xs.length * (K + [32].length) ≤ 4812 * 301:=Nat.mul_le_mul hx (by simp;omega)
   omega)
  have d1 : ((xs.length : Int) == 0) = false:=by rw [beq_eq_false_iff_ne];omega
  obtain ⟨R,hR⟩ : ∃ R,R = orNoneW (wordsW (xs.map f)):=⟨_,rfl⟩
  rw [← hR] at HEND ⊢
  clear hR hfw hf hcs hmem h0
  go_enter Tryz.func28,Tryz.ntmps28
  go_wp2_with fail
  go_loopw [5,13] (fun v5 v13 wr => ∃ (k : Nat) (ts : List ByteArray),k ≤ xs.length ∧ v13 = .int .i64 (k : Int) ∧ Hid (ts.map (·.data.toList) = (xs.take k).map f) ∧ Hid (wr.ownsRow w.heap.size 9 1 v5 k (strVals ts)) ∧ Hid (Below w.heap.size w wr)) (fun _ i _ => xs.length - (intOf i).toNat)
  case atStart => exact ⟨0,[],by omega,rfl,hid rfl,hid (World.ownsRow_nil _ _ _ _),hid (Below.refl _ _)⟩
  case round =>
   obtain ⟨k,ts,hk,rfl,HT,HO,HB⟩:=hrel
   have hsz:=HB.out.size
   by_cases hlt : k < xs.length
   ·have hi : xs[k]? = some (xs[k]'hlt):=List.getElem?_eq_getElem hlt
    generalize xs[k]'hlt = q at hi
    obtain ⟨i,a,b⟩:=q
    obtain ⟨m0,m1,m2⟩:=HCS.out wr (fun o => HB.out.cell (p:=⟨bs,o,none⟩) hbs) k i a b hi
    have hba : Below wr.heap.size wr (wr.alloc (.cells #[.int .i64 (i : Int),.int .i64 (a : Int),.int .i64 (b : Int)] 70)):=(Below.refl _ _).alloc (Nat.le_refl _) _
    have HC:=hid (HF.out k _ hi _ (HB.out.trans (hba.mono hsz)))
    have HBA:=hid hba
    have HTK : Hid (xs.take (k + 1) = xs.take k ++ [⟨i,a,b⟩]):=hid (take_snoc hi)
    have k0 : (0 : Int) ≤ (k : Int):=by omega
    have k1 : (k : Int) < (xs.length : Int):=by omega
    clear hi hba
    dsimp only at HC
    go_wp2_with fail
    refine HC.out.mono ?_
    rintro e w2 ⟨t,rfl,ht,hb2⟩
    have HT2 : Hid ((ts ++ [t]).map (·.data.toList) = (xs.take (k + 1)).map f):=hid (by rw [HTK.out,List.map_append,List.map_append,HT.out,List.map_cons,List.map_cons,ht];rfl)
    have HBW : Hid (Below w.heap.size w w2):=hid ((HB.out.trans (HBA.out.mono hsz)).trans (hb2.mono (by have:=HBA.out.size;omega)))
    have HO2 : Hid (w2.ownsRow w.heap.size 9 1 u5 k (strVals ts)):=hid (own_low (own_low HO.out HBA.out) hb2)
    have HX : Hid (strVals (ts ++ [t]) = strVals ts ++ [.string t]):=hid (strVals_snoc _ _)
    have hsz2:=HBW.out.size
    clear ht hb2 HTK HC
    generalize strVals ts = vs at *
    go_wp2_with (at_builtin;refine wpList_append_own _ rfl (.tmp 17) (.tmp 21) _ rfl w.heap.size 9 i0 _ 1 16 Tryz.underlying94 hi0 hz0 hz1 hz2 rfl (by omega) _ k vs rfl (HO2.out.alloc _) ⟨w2.heap.size,0,none⟩ 1 1 [.string t] rfl rfl (new_one _ _ _ _ rfl) (by intro u hu;simp at hu;subst hu;rfl) (by unfold maxLen;omega) (by omega) (by simp;omega) ?_)
    intro v' w' hown' hg' _
    have HBN:=hid (below_own (HBW.out.alloc hsz2 _) (Nat.le_refl _) (by simp;omega) (HO2.out.alloc _) hg')
    have HON : Hid (w'.ownsRow w.heap.size 9 1 v' (k + 1) (strVals (ts ++ [t]))):=hid (by rw [HX.out];exact hown')
    clear hown' hg'
    go_wp2_with fail
    go_roundw
    case rel => exact ⟨k + 1,ts ++ [t],by omega,by go_num,HT2,HON,HBN⟩
    case measure => simp [intOf];omega
   ·obtain rfl : k = xs.length:=by omega
    have hT:=HT.out
    rw [List.take_length] at hT
    have htl : ts.length = xs.length:=by have:=congrArg List.length hT;simpa using this
    obtain ⟨A',cap',hv,hq1,hq2,hq3⟩:=str_open (Rd.of_own HO.out)
    obtain ⟨bk,off,rfl,hbk,hcl⟩:=hq3 (by omega)
    rw [htl] at hv
    subst hv
    have HJ : Hid (Calls Tryz.prog 44 #[.slice (some ⟨bk,off,none⟩) xs.length cap',.string ⟨#[32]⟩] wr (fun e w' => e = .returned (.string ⟨R.toArray⟩) ∧ Below wr.heap.size wr w')):=hid (by
     have:=Join_c bk off cap' ts ⟨#[32]⟩ wr (fun j x hj => hcl wr (fun _ => rfl) j x hj) hbk (by omega) hq1 (by rw [hT];exact HJL.out)
     rw [hT,htl,show (⟨#[32]⟩ : ByteArray).data.toList = [32] from rfl,HEND.out] at this
     exact this)
    clear hcl hT HEND HJL htl hq1 hq3
    go_wp2_with fail
    refine HJ.out.mono ?_
    rintro e w2 ⟨rfl,hb2⟩
    have HB2:=hid (HB.out.trans (hb2.mono hsz))
    clear hb2
    go_wp2_with fail
    go_ret
    exact ⟨_,rfl,rfl,HB2.out⟩
end Go.Proofs.YthhcpbfgoofppaaGreatDoor.setW
namespace Wf
theorem place_self {m : SS} (h : m.ok) {k : Nat} {x : Mb} (hx : m.ms[k]? = some x) : m.place (x.id : Int) = some k:=by
 unfold SS.place
 obtain ⟨hlt,he⟩:=List.getElem?_eq_some_iff.1 hx
 rw [List.findIdx?_eq_some_iff_getElem]
 refine ⟨hlt,by simp [he],fun j hj => ?_⟩
 have:=List.pairwise_iff_getElem.1 h.up j k (by omega) hlt hj
 rw [he] at this
 simp
 omega
end Wf
namespace Go.Proofs.YthhcpbfgoofppaaGreatDoor.setW
open Go.RowKit Wf
set_option linter.unusedVariables false
def LibE (B : Nat) (w : World) : Prop:=∃ (w0 : World) (ev rv : Value),w0.heap.size = B ∧ Below B w0 w ∧ SynE ev w0 ∧ RngE rv w0 ∧ ErrT w0 ∧ Tab10 w0
section
variable {B : Nat} {w w' : World}
theorem LibE.of {ev rv : Value} (h1 : SynE ev w) (h2 : RngE rv w) (h3 : ErrT w) (h4 : Tab10 w) : LibE w.heap.size w:=⟨w,ev,rv,rfl,Below.refl _ _,h1,h2,h3,h4⟩
theorem LibE.next (h : LibE B w) (hb : Below B w w') : LibE B w':=by
 obtain ⟨w0,ev,rv,h0,h1,h2⟩:=h
 exact ⟨w0,ev,rv,h0,h1.trans hb,h2⟩
theorem LibE.tab (h : LibE B w) : Tab10 w:=by obtain ⟨w0,ev,rv,rfl,h1,h2,h3,h4,h5⟩:=h;exact h5.below h1
theorem LibE.err (h : LibE B w) : ErrT w:=by obtain ⟨w0,ev,rv,rfl,h1,h2,h3,h4,h5⟩:=h;exact h4.below h1
theorem LibE.syn (h : LibE B w) : ∃ ev,SynE ev w:=by obtain ⟨w0,ev,rv,rfl,h1,h2,h3,h4,h5⟩:=h;exact ⟨ev,h2.below h1⟩
theorem LibE.rng (h : LibE B w) : ∃ rv,RngE rv w:=by obtain ⟨w0,ev,rv,rfl,h1,h2,h3,h4,h5⟩:=h;exact ⟨rv,h3.below h1⟩
end
theorem item_c (B b : Nat) (m : SS) (ml : List Mr) (A : Value) (w : World) (h : SetAt B b m ml A w) (hl : LibE B w) (hsm : m.last ≤ 750) (k : Nat) (x : Mb) (hx : m.ms[k]? = some x) :
 Calls Tryz.prog 18 #[.agg #[.pointer (some ⟨b,0,none⟩)],.agg #[.int .i64 (x.id : Int),.string x.text]] w (fun e w' => ∃ t : ByteArray,e = .returned (.string t) ∧ t.data.toList = itemW x ∧ Below w.heap.size w w'):=by
 have hix:=(h.ok.pos x (List.mem_of_getElem? hx)).2
 have hps:=place_self h.ok hx
 obtain ⟨_,_,hf60,hokt,_⟩:=parseE_some (h.ok.read x (List.mem_of_getElem? hx))
 have hBw:=h.hBw
 have HPT : Hid (∀ W,Below w.heap.size w W → Calls Tryz.prog 29 #[.pointer (some ⟨b,0,none⟩),.int .i64 (x.id : Int)] W (fun e w' => ∃ (VA : Option Addr) (cap N : Nat),e = .returned (.tuple #[.slice VA N cap,.nilIface]) ∧ RdN w' (.slice VA N cap) (flat x.t) ∧ Below W.heap.size W w')):=hid fun W hW => (Pattern_set B b m ml A (x.id : Int) W (h.below hW)).mono (by
  rintro e w' ⟨hb,⟨hn,_⟩ | ⟨k',q,VA,cap,hk',hq,he,hr⟩⟩
  ·rw [hps] at hn;cases hn
  ·rw [hps] at hk'
   cases hk'
   rw [hx] at hq
   cases hq
   exact ⟨VA,cap,_,he,hr,hb⟩)
 obtain ⟨T,n,hT,hn,hn6,hw⟩ : ∃ (T : ByteArray) (n : Nat),(⟨(printR (flat x.t) x.t).1.toArray⟩ : ByteArray) = T ∧ errV (printR (flat x.t) x.t).2 = errV (n : Int) ∧ n ≤ 6 ∧ toldW T.data.toList 0 n = (if (textT x.t).length ≤ 200 then textT x.t else errT 3):=by
  unfold printR
  rw [if_neg (by rw [chk_flat _ hf60];simp)]
  split
  ·exact ⟨_,0,rfl,rfl,by omega,rfl⟩
  ·exact ⟨_,3,rfl,rfl,by omega,rfl⟩
 have HPR : Hid (∀ W v,RdN W v (flat x.t) → Calls Tryz.prog 45 #[v] W (fun e w' => e = .returned (.tuple #[.string T,errV (n : Int)]) ∧ Below W.heap.size W w')):=hid fun W v hr => (Print_c (flat x.t) x.t (fun _ => rfl) hokt v W hr).mono (by
  rintro e w' ⟨he,hb⟩
  rw [hT,hn] at he
  exact ⟨he,hb⟩)
 have HIT : Hid (∀ W,Below w.heap.size w W → Calls Tryz.prog 20 #[.int .i64 (x.id : Int)] W (fun e w' => e = .returned (.string ⟨(Lib.decDigits x.id).toArray⟩) ∧ Below W.heap.size W w')):=hid fun W hW => Itoa_c x.id (by omega) W (hl.tab.below hW)
 have HTO : Hid (∀ W,Below w.heap.size w W → Calls Tryz.prog 23 #[.string T,.int .i64 0,errV (n : Int)] W (fun e w' => ∃ t : ByteArray,e = .returned (.string t) ∧ t.data.toList = (if (textT x.t).length ≤ 200 then textT x.t else errT 3) ∧ t.size ≤ 200 ∧ Below W.heap.size W w')):=hid fun W hW => (told_c T 0 n hn6 (by omega) W (hl.err.below hW) (hl.tab.below hW)).mono (by
  rintro e w' ⟨t,he,ht,hb⟩
  rw [hw] at ht
  refine ⟨t,he,ht,?_,hb⟩
  have h1 : t.data.toList.length = t.size:=by simp
  have h2:=errT_len 3
  rw [← h1,ht]
  split <;> omega)
 have HRES : Hid (∀ D t : ByteArray,D.data.toList = Lib.decDigits x.id → t.data.toList = (if (textT x.t).length ≤ 200 then textT x.t else errT 3) → (D ++ ⟨#[58]⟩ ++ t).data.toList = itemW x):=hid fun D t h1 h2 => by
  rw [data_app,data_app,h1,h2]
  rfl
 obtain ⟨D,hD⟩ : ∃ D : ByteArray,D = ⟨(Lib.decDigits x.id).toArray⟩:=⟨_,rfl⟩
 have hDl : D.data.toList = Lib.decDigits x.id:=by rw [hD]
 have hDz : D.size ≤ 5:=by
  have h1 : D.data.toList.length = D.size:=by simp
  have h2:=decN_len (n:=x.id) (by omega)
  rw [← h1,hDl]
  exact h2
 rw [← hD] at HIT
 have HDL:=hid hDl
 generalize (if (textT x.t).length ≤ 200 then textT x.t else errT 3) = R at *
 generalize flat x.t = F at *
 generalize itemW x = IW at *
 generalize errV (n : Int) = EV at *
 generalize x.id = id at *
 generalize x.text = tx at *
 have HB0 : Hid (Below w.heap.size w ((w.alloc (.cells #[.pointer (some ⟨b,0,none⟩)] 28)).alloc (.cells #[.int .i64 (id : Int),.string tx] 53))):=hid (((Below.refl _ _).alloc (Nat.le_refl _) _).alloc (by simp) _)
 have HIB : Hid (∀ W,Below ((w.alloc (.cells #[.pointer (some ⟨b,0,none⟩)] 28)).alloc (.cells #[.int .i64 (id : Int),.string tx] 53)).heap.size ((w.alloc (.cells #[.pointer (some ⟨b,0,none⟩)] 28)).alloc (.cells #[.int .i64 (id : Int),.string tx] 53)) W → W.cell? ⟨w.heap.size + 1,0,none⟩ = some (.int .i64 (id : Int))):=hid fun W hW => (hW.cell (p:=⟨w.heap.size + 1,0,none⟩) (by simp)).trans (by
  simp)
 clear h hl hx hix hps hf60 hokt hBw hT hn hw hDl hD
 go_enter Tryz.func18,Tryz.ntmps18
 go_wp2_with fail
 refine (HPT.out _ HB0.out).mono ?_
 rintro e w1 ⟨VA,cap,N,rfl,hr,hb1⟩
 have HR1:=hid hr
 have HB1:=hid hb1
 have c1:=HIB.out w1 hb1
 have HBW:=hid (HB0.out.trans (hb1.mono HB0.out.size))
 clear hr hb1
 go_wp2_with fail
 refine (HPR.out _ _ HR1.out).mono ?_
 rintro e w2 ⟨rfl,hb2⟩
 have c2:=HIB.out w2 (HB1.out.trans (hb2.mono HB1.out.size))
 have HB2:=hid (HBW.out.trans (hb2.mono HBW.out.size))
 clear hb2 c1 HB1 HBW HR1 HIB
 go_wp2_with fail
 refine (HIT.out _ HB2.out).mono ?_
 rintro e w3 ⟨rfl,hb3⟩
 have HB3:=hid (HB2.out.trans (hb3.mono HB2.out.size))
 clear hb3
 go_wp2_with fail
 refine (HTO.out _ HB3.out).mono ?_
 rintro e w4 ⟨t,rfl,ht,hz,hb4⟩
 have HT:=hid ht
 have HB4:=hid (HB3.out.trans (hb4.mono HB3.out.size))
 clear ht hb4
 go_wp2_with fail
 go_ret
 exact ⟨_,rfl,HRES.out D t HDL.out HT.out,HB4.out⟩
theorem hit_c (i a b : Nat) (h1 : i ≤ 1000) (h2 : a ≤ 1000) (h3 : b ≤ 1000) (w : World) (ht : Tab10 w) :
 Calls Tryz.prog 27 #[.agg #[.int .i64 (i : Int),.int .i64 (a : Int),.int .i64 (b : Int)]] w (fun e w' => ∃ t : ByteArray,e = .returned (.string t) ∧ t.data.toList = hitW (i,a,b) ∧ Below w.heap.size w w'):=by
 have key : ∀ n : Nat,n ≤ 1000 → ∃ D : ByteArray,D.data.toList = Lib.decDigits n ∧ D.size ≤ 5 ∧ Hid (∀ W,Below w.heap.size w W → Calls Tryz.prog 20 #[.int .i64 (n : Int)] W (fun e w' => e = .returned (.string D) ∧ Below W.heap.size W w')):=by
  intro n hn
  refine ⟨⟨(Lib.decDigits n).toArray⟩,rfl,?_,hid fun W hW => Itoa_c n hn W (ht.below hW)⟩
  have:=decN_len (n:=n) (by omega)
  simpa [ByteArray.size] using this
 obtain ⟨X,hX,hXz,HX⟩:=key i h1
 obtain ⟨Y,hY,hYz,HY⟩:=key a h2
 obtain ⟨Z,hZ,hZz,HZ⟩:=key b h3
 have HRES : Hid ((X ++ ⟨#[58]⟩ ++ Y ++ ⟨#[45]⟩ ++ Z).data.toList = hitW (i,a,b)):=hid (by
  rw [data_app,data_app,data_app,data_app,hX,hY,hZ]
  rfl)
 generalize hitW (i,a,b) = HW at *
 have hblk:=Blk.new w 70 #[.int .i64 (i : Int),.int .i64 (a : Int),.int .i64 (b : Int)]
 have hb0 : Below w.heap.size w (w.alloc (.cells #[.int .i64 (i : Int),.int .i64 (a : Int),.int .i64 (b : Int)] 70)):=(Below.refl _ _).alloc (Nat.le_refl _) _
 obtain ⟨W0,hW0⟩ : ∃ W0,W0 = w.alloc (.cells #[.int .i64 (i : Int),.int .i64 (a : Int),.int .i64 (b : Int)] 70):=⟨_,rfl⟩
 have HW0:=hid hW0
 rw [← hW0] at hblk hb0
 have HS : Hid (∀ w',Hid (Below W0.heap.size W0 w') → (w'.cell? ⟨w.heap.size,0,none⟩ = some (.int .i64 (i : Int)) ∧ w'.cell? ⟨w.heap.size,1,none⟩ = some (.int .i64 (a : Int)) ∧ w'.cell? ⟨w.heap.size,2,none⟩ = some (.int .i64 (b : Int)) ∧ Hid (Below W0.heap.size W0 w'))):=hid fun w' hb => by
  have hk:=hblk.kept hb.out
  exact ⟨by simpa using hk.cell 0,by simpa using hk.cell 1,by simpa using hk.cell 2,hb⟩
 have HK : Hid (∀ w1 w2,Hid (Below W0.heap.size W0 w1) → Below w1.heap.size w1 w2 → Hid (Below W0.heap.size W0 w2)):=hid fun w1 w2 a b => hid (a.out.trans (b.mono a.out.size))
 have HB0:=hid hb0
 have HX' : Hid (∀ W,Hid (Below W0.heap.size W0 W) → Calls Tryz.prog 20 #[.int .i64 (i : Int)] W (fun e w' => e = .returned (.string X) ∧ Below W.heap.size W w')):=hid fun W hW => HX.out W (HB0.out.trans (hW.out.mono HB0.out.size))
 have HY' : Hid (∀ W,Hid (Below W0.heap.size W0 W) → Calls Tryz.prog 20 #[.int .i64 (a : Int)] W (fun e w' => e = .returned (.string Y) ∧ Below W.heap.size W w')):=hid fun W hW => HY.out W (HB0.out.trans (hW.out.mono HB0.out.size))
 have HZ' : Hid (∀ W,Hid (Below W0.heap.size W0 W) → Calls Tryz.prog 20 #[.int .i64 (b : Int)] W (fun e w' => e = .returned (.string Z) ∧ Below W.heap.size W w')):=hid fun W hW => HZ.out W (HB0.out.trans (hW.out.mono HB0.out.size))
 have HWD : Hid (Below W0.heap.size W0 W0.drew):=hid (Below.refl _ _).drew
 have s1 : (⟨#[58]⟩ : ByteArray).size = 1:=rfl
 have s2 : (⟨#[45]⟩ : ByteArray).size = 1:=rfl
 have ad1:=fun W => run_string_add_sum (P:=Tryz.prog) W X ⟨#[58]⟩ (by rw [s1];omega)
 have ad2:=fun W => run_string_add_sum (P:=Tryz.prog) W (X ++ ⟨#[58]⟩) Y (by rw [ByteArray.size_append,s1];omega)
 have ad3:=fun W => run_string_add_sum (P:=Tryz.prog) W (X ++ ⟨#[58]⟩ ++ Y) ⟨#[45]⟩ (by rw [ByteArray.size_append,ByteArray.size_append,s1,s2];omega)
 have ad4:=fun W => run_string_add_sum (P:=Tryz.prog) W (X ++ ⟨#[58]⟩ ++ Y ++ ⟨#[45]⟩) Z (by rw [ByteArray.size_append,ByteArray.size_append,ByteArray.size_append,s1,s2];omega)
 clear s1 s2
 clear key hX hY hZ h1 h2 h3 ht hblk hb0 HX HY HZ hW0
 go_enter Tryz.func27,Tryz.ntmps27
 go_wp2_with fail
 rw [← HW0.out]
 go_region_held3 (fun w' => w'.cell? ⟨w.heap.size,0,none⟩ = some (.int .i64 (i : Int)) ∧ w'.cell? ⟨w.heap.size,1,none⟩ = some (.int .i64 (a : Int)) ∧ w'.cell? ⟨w.heap.size,2,none⟩ = some (.int .i64 (b : Int)) ∧ Hid (Below W0.heap.size W0 w'))
  (exact HS.out _ (by assumption))
  (first
    | (go_at_call_of 20 (Value.int .i64 (i : Int));refine (HX'.out _ (by assumption)).mono ?_;rintro e w5 ⟨rfl,hb5⟩;have hl5:=HK.out _ _ (by assumption) hb5)
    | (go_at_call_of 20 (Value.int .i64 (a : Int));refine (HY'.out _ (by assumption)).mono ?_;rintro e w5 ⟨rfl,hb5⟩;have hl5:=HK.out _ _ (by assumption) hb5)
    | (go_at_call_of 20 (Value.int .i64 (b : Int));refine (HZ'.out _ (by assumption)).mono ?_;rintro e w5 ⟨rfl,hb5⟩;have hl5:=HK.out _ _ (by assumption) hb5))
 go_wp2_with fail
 go_ret
 exact ⟨_,rfl,HRES.out,HB0.out.trans (hl5.out.mono HB0.out.size)⟩
set_option linter.unusedVariables false
theorem ta_nilR (W : World) : (Instr.typeAssert .nilIface 20 49 true).run Tryz.prog W = .ok (.tuple #[.agg #[],.bool false]) W:=by kernel_rfl
theorem ta_unread (W : World) : (Instr.typeAssert (.iface 49 (.agg #[])) 20 49 true).run Tryz.prog W = .ok (.tuple #[.agg #[],.bool true]) W:=by kernel_rfl
theorem lcatch_idle (p : Addr) (w : World) :
 CallsD Tryz.prog 15 #[.pointer (some p)] .returning w fun e u' w' => e = .returned (.tuple #[]) ∧ u' = .returning ∧ Below w.heap.size w w':=by
 refine callsD_of_wpS Tryz.func15 rfl fun c₀ cs hu => ?_
 rw [show (#[.pointer (some p)] : Array Value) ++ Array.replicate (Tryz.f15.ntmps - (#[.pointer (some p)] : Array Value).size) undef = #[.pointer (some p),undef,undef,undef,undef,undef,undef,undef,undef] from by rw [Tryz.ntmps15];rfl]
 apply wpS_seq
 apply wpS_region
 have hta:=ta_nilR
 simp [wpOpsS,go_sem,recoverD,hu,Exit.thenS,hta]
 refine wpS_of_wp ?_
 go_wp2
 cases c₀
 simp_all [bodyPostS,results,Tryz.results15]
 exact (Below.refl _ _).alloc (Nat.le_refl _) _
theorem lcatch_unread (P : Nat) (v : Value) (w : World) (b2 : Blk w P 9 #[v]) :
 CallsD Tryz.prog 15 #[.pointer (some ⟨P,0,none⟩)] (.panicking [{ v:=unreadV,recovered:=false }]) w fun e u' w' => e = .returned (.tuple #[]) ∧ u' = .panicking [{ v:=unreadV,recovered:=true }] ∧
  Blk w' P 9 #[.string ⟨#[98,97,100]⟩] ∧ Below P w w':=by
 have hP:=b2.lt
 have a2:=b2.alloc (.cells #[] 49)
 have x2:=a2.cell 0
 have y2:=a2.frozen 0
 simp only [List.getElem?_toArray,List.getElem?_cons_zero] at x2
 have B2:=hid b2
 clear b2 a2
 unfold unreadV
 refine callsD_of_wpS Tryz.func15 rfl fun c₀ cs hu => ?_
 rw [show (#[.pointer (some ⟨P,0,none⟩)] : Array Value) ++ Array.replicate (Tryz.f15.ntmps - (#[.pointer (some ⟨P,0,none⟩)] : Array Value).size) undef = #[.pointer (some ⟨P,0,none⟩),undef,undef,undef,undef,undef,undef,undef,undef] from by rw [Tryz.ntmps15];rfl]
 apply wpS_seq
 apply wpS_region
 have hta:=ta_unread
 simp [wpOpsS,go_sem,recoverD,hu,Exit.thenS,hta]
 refine wpS_of_wp ?_
 clear hta
 go_wp2_with fail
 have n2:=(B2.out.set_ 0 (.string ⟨#[98,97,100]⟩)).alloc (.cells #[] 49)
 have hbb : Below P w ((w.setCell ⟨P,0,none⟩ (.string ⟨#[98,97,100]⟩)).alloc (.cells #[] 49)):=((Below.refl P w).setCell (Nat.le_refl _) (p:=⟨P,0,none⟩) _).alloc (by simp;omega) _
 refine ⟨rfl,.panicking [{ v:=.iface 49 (.agg #[]),recovered:=true }],rfl,.tuple #[],?_,rfl,rfl,n2,hbb⟩
 simp [results,Tryz.results15]
set_option linter.unusedVariables false
def LineTo (r : List UInt8) (B b : Nat) (m : SS) (w : World) (e : Ending) (w' : World) : Prop :=
 ∃ (t : ByteArray) (ml : List Mr) (A : Value),e = .returned (.string t) ∧ t.data.toList = r ∧ SetAt B b m ml A w' ∧ SK B b w w'
theorem SetAt.far {B b P o : Nat} {m : SS} {ml : List Mr} {A u : Value} {W : World} {t : TypeId} {cs : Array Value} (h : SetAt B b m ml A W) (hp : Blk W P t cs) (h1 : b ≠ P) (h2 : t ≠ 97) (h3 : t ≠ 114) : SetAt B b m ml A (W.setCell ⟨P,o,none⟩ u) :=
 ⟨h.hB,h.ms,h.blk.far (p:=⟨P,o,none⟩) h1 u,h.own.kept (grown_setS W P o u) (.inr (own_not h.own hp h2)),fun q hq => ⟨World.ownsRow.kept (h.mem q hq).1 (grown_setS W P o u) (.inr (own_not (h.mem q hq).1 hp h3)),(h.mem q hq).2⟩,h.ok,h.lastb⟩
structure LnE (B b : Nat) (m : SS) (w W : World) : Prop where
 set : ∃ ml A,SetAt B b m ml A W
 sk : SK B b w W
 lt : b < w.heap.size
 ses : Blk W w.heap.size 28 #[.pointer (some ⟨b,0,none⟩)]
 out : Blk W (w.heap.size + 1) 9 #[.string ⟨#[]⟩]
 lib : LibE B W
section
variable {B b : Nat} {m m' : SS} {w W W' : World}
theorem LnE.next (h : LnE B b m w W) (hs : ∃ ml A,SetAt B b m' ml A W') (hk : SK B b W W') : LnE B b m' w W' :=
 ⟨hs,h.sk.trans hk,h.lt,hk.keep _ _ _ (by have:=h.lt;omega) (by decide) h.ses,hk.keep _ _ _ (by have:=h.lt;omega) (by decide) h.out,h.lib.next hk.bel⟩
theorem LnE.below (h : LnE B b m w W) (hb : Below W.heap.size W W') : LnE B b m w W':=by
 obtain ⟨ml,A,hs⟩:=h.set
 exact h.next ⟨ml,A,hs.below hb⟩ (SK.of_below hs.hBw hb)
theorem LnE.start {ml : List Mr} {A : Value} (h : SetAt B b m ml A w) (hl : LibE B w) : LnE B b m w ((w.alloc (.cells #[.pointer (some ⟨b,0,none⟩)] 28)).alloc (.cells #[.string ⟨#[]⟩] 9)):=by
 have hb : Below w.heap.size w ((w.alloc (.cells #[.pointer (some ⟨b,0,none⟩)] 28)).alloc (.cells #[.string ⟨#[]⟩] 9)):=((Below.refl _ _).alloc (Nat.le_refl _) _).alloc (by simp) _
 exact ⟨⟨ml,A,h.below hb⟩,SK.of_below h.hBw hb,h.lt,(Blk.new w _ _).alloc _,Blk.new_at _ _ _ _ (by simp),hl.next (hb.mono h.hBw)⟩
theorem LnE.cell (h : LnE B b m w W) : W.cell? ⟨w.heap.size + 1,0,none⟩ = some (.string ⟨#[]⟩):=by have:=h.out.cell 0;simpa using this
theorem LnE.cellS (h : LnE B b m w W) : W.cell? ⟨w.heap.size,0,none⟩ = some (.pointer (some ⟨b,0,none⟩)):=by have:=h.ses.cell 0;simpa using this
theorem LnE.frozen (h : LnE B b m w W) : W.frozen? ⟨w.heap.size + 1,0,none⟩ = false:=h.out.frozen 0
theorem LnE.fin (h : LnE B b m w W) (t : ByteArray) (W2 : World) (hb : Below (W.setCell ⟨w.heap.size + 1,0,none⟩ (.string t)).heap.size (W.setCell ⟨w.heap.size + 1,0,none⟩ (.string t)) W2) :
 W2.cell? ⟨w.heap.size + 1,0,none⟩ = some (.string t) ∧ ∃ ml A,SetAt B b m ml A W2 ∧ SK B b w W2:=by
 obtain ⟨ml,A,hs⟩:=h.set
 have hlt:=h.lt
 have h1 : SetAt B b m ml A (W.setCell ⟨w.heap.size + 1,0,none⟩ (.string t)):=hs.far h.out (by omega) (by decide) (by decide)
 have h2 : Blk (W.setCell ⟨w.heap.size + 1,0,none⟩ (.string t)) (w.heap.size + 1) 9 #[.string t]:=h.out.set_ 0 (.string t)
 have h3 : SK B b w (W.setCell ⟨w.heap.size + 1,0,none⟩ (.string t)):=⟨h.sk.bel.setCell (p:=⟨w.heap.size + 1,0,none⟩) (by have:=hs.hB;show B ≤ w.heap.size + 1;omega) _,fun i cs ty a1 a2 a3 => (h.sk.keep i cs ty a1 a2 a3).far (p:=⟨w.heap.size + 1,0,none⟩) (by have:=a3.lt;show i ≠ w.heap.size + 1;omega) _⟩
 refine ⟨by have:=(h2.kept hb).cell 0;simpa using this,ml,A,h1.below hb,h3.trans (SK.of_below h1.hBw hb)⟩
theorem LnE.bad {ml : List Mr} {A : Value} (h : SetAt B b m ml A w) (h0 : Below w.heap.size w W) (W2 : World) (hb : Below (w.heap.size + 1) W W2) : ∃ ml A,SetAt B b m ml A W2 ∧ SK B b w W2:=by
 have h1 : Below w.heap.size w W2:=h0.trans (hb.mono (by omega))
 exact ⟨ml,A,h.below h1,SK.of_below h.hBw h1⟩
end
theorem eq_lits {s : ByteArray} {l : List UInt8} (h : s.data.toList ≠ l) : (s.toList == l) = false:=by
 rw [beq_eq_false_iff_ne,Lib.toList_data];exact h
theorem mkf : ∀ (fn : Fn) (first cap : Array Value) (w : World),(Instr.makeFunc fn first cap).run Tryz.prog w = .ok (.func fn first cap) w:=fun _ _ _ _ => rfl
def NL (s : ByteArray) : Prop:=s.size ≤ 3000 ∧ s.data.toList ≠ [108,105,115,116] ∧ s.data.toList ≠ [111,110] ∧ s.data.toList ≠ [111,102,102] ∧ s.data.toList ≠ [116,114,105,101,100]
theorem NL.at {s : ByteArray} (h : NL s) : s.size ≤ 3000 ∧ (s.toList == [108,105,115,116]) = false ∧ (s.toList == [111,110]) = false ∧ (s.toList == [111,102,102]) = false ∧ (s.toList == [116,114,105,101,100]) = false :=
 ⟨h.1,eq_lits h.2.1,eq_lits h.2.2.1,eq_lits h.2.2.2.1,eq_lits h.2.2.2.2⟩
theorem cut_sz {c : UInt8} {s a b : ByteArray} (h : cutAt c s.data.toList = some (a.data.toList,b.data.toList)) : b.size < s.size:=by
 have:=cut_len h
 have h1 : s.data.toList.length = s.size:=by simp
 have h2 : b.data.toList.length = b.size:=by simp
 omega
theorem Cut_none (s : ByteArray) (hs : s.size ≤ 3000) {c : UInt8} (hc : cutAt c s.data.toList = none) (W : World) : Calls Tryz.prog 8 #[.string s,.string ⟨#[c]⟩] W (fun e w' => e = .returned (.tuple #[.string s,.string ⟨#[]⟩,.bool false]) ∧ Below W.heap.size W w'):=by
 refine (Cut_c s c (by omega) W).mono ?_
 rintro e w' ⟨hb,⟨_,rfl⟩ | ⟨x,y,h,_⟩⟩
 ·exact ⟨rfl,hb⟩
 ·rw [hc] at h;cases h
theorem Cut_some (s a b : ByteArray) (hs : s.size ≤ 3000) {c : UInt8} (hc : cutAt c s.data.toList = some (a.data.toList,b.data.toList)) (W : World) : Calls Tryz.prog 8 #[.string s,.string ⟨#[c]⟩] W (fun e w' => e = .returned (.tuple #[.string a,.string b,.bool true]) ∧ Below W.heap.size W w'):=by
 refine (Cut_c s c (by omega) W).mono ?_
 rintro e w' ⟨hb,⟨h,_⟩ | ⟨x,y,h,_,rfl⟩⟩
 ·rw [hc] at h;cases h
 ·rw [hc] at h
  injection h with h
  injection h with h1 h2
  have e1 : a = x:=ByteArray.ext (Array.toList_inj.1 h1)
  have e2 : b = y:=ByteArray.ext (Array.toList_inj.1 h2)
  rw [e1,e2]
  exact ⟨rfl,hb⟩
theorem dec_sz {n : Nat} (h : n ≤ 1000) : ∃ D : ByteArray,D = ⟨(Lib.decDigits n).toArray⟩ ∧ D.data.toList = Lib.decDigits n ∧ D.size ≤ 5:=by
 refine ⟨_,rfl,rfl,?_⟩
 have:=decN_len (n:=n) (by omega)
 simpa [ByteArray.size] using this
theorem line_tried (B b : Nat) (m : SS) (ml : List Mr) (A : Value)  (w : World) (h : SetAt B b m ml A w) (hl : LibE B w) (hsm : m.small 3000) :
 Calls Tryz.prog 10 #[.agg #[.pointer (some ⟨b,0,none⟩)],.string ⟨#[116,114,105,101,100]⟩] w (LineTo (Lib.decDigits m.tried) B b (m) w):=by
 have hmf:=mkf
 have HL0:=hid (LnE.start h hl)
 have hhB:=h.hBw
 unfold LineTo
 have hT12:=hsm.tried
 have HT:=hid fun W (hW : LnE B b m w W) => (by obtain ⟨ml',A',hs⟩:=hW.set;exact Tried_set B b m ml' A' W hs : Calls Tryz.prog 21 #[.pointer (some ⟨b,0,none⟩)] W (fun e w' => e = .returned (.int .i64 (m.tried : Int)) ∧ W = w'))
 obtain ⟨D,hD,hDl,hDz⟩:=dec_sz (n:=m.tried) (by omega)
 have HI : Hid (∀ W,LnE B b m w W → Calls Tryz.prog 20 #[.int .i64 (m.tried : Int)] W (fun e w' => e = .returned (.string D) ∧ Below W.heap.size W w')):=hid fun W hW => by rw [hD];exact Itoa_c m.tried (by omega) W hW.lib.tab
 clear h hl hsm hD hT12
 go_enter_defers Tryz.func10,Tryz.ntmps10
 go_wp2_with fail
 refine (HT.out _ HL0.out).mono ?_
 rintro e w1 ⟨rfl,rfl⟩
 go_wp2_with fail
 refine (HI.out _ HL0.out).mono ?_
 rintro e w2 ⟨rfl,hb2⟩
 have HL2:=hid (HL0.out.below hb2)
 have c2:=HL2.out.cell
 have z2:=HL2.out.frozen
 clear hb2
 go_wp2_with fail
 refine leaves_cons (f:=15) (args:=#[.pointer (some ⟨w.heap.size + 1,0,none⟩)]) (by simp) (by simp [go_sem]) ?_
 refine (lcatch_idle _ _).mono ?_
 rintro e u' w9 ⟨rfl,rfl,hb9⟩
 obtain ⟨c9,ml9,A9,hs9,hk9⟩:=HL2.out.fin D w9 hb9
 simp [Leaves,settle,results,Tryz.results10,go_sem,c9]
 exact ⟨hDl,⟨ml9,A9,hs9⟩,hk9⟩
theorem line_on (B b : Nat) (m : SS) (ml : List Mr) (A : Value)  (w : World) (h : SetAt B b m ml A w) (hl : LibE B w) (hsm : m.small 3000) :
 Calls Tryz.prog 10 #[.agg #[.pointer (some ⟨b,0,none⟩)],.string ⟨#[111,110]⟩] w (LineTo (okyW) B b ({ m with on:=true }) w):=by
 have hmf:=mkf
 have HL0:=hid (LnE.start h hl)
 have hhB:=h.hBw
 unfold LineTo
 have HT : Hid (∀ W,LnE B b m w W → Calls Tryz.prog 19 #[.pointer (some ⟨b,0,none⟩),.bool true] W (fun e w' => e = .returned (.tuple #[]) ∧ LnE B b { m with on:=true } w w')):=hid fun W hW => by
  obtain ⟨ml',A',hs⟩:=hW.set
  refine (Filter_set B b m ml' A' true W hs).mono ?_
  rintro e w' ⟨rfl,ml2,A2,hs2,hk⟩
  exact ⟨rfl,hW.next ⟨ml2,A2,hs2⟩ hk⟩
 clear h hl hsm
 go_enter_defers Tryz.func10,Tryz.ntmps10
 go_wp2_with fail
 refine (HT.out _ HL0.out).mono ?_
 rintro e w1 ⟨rfl,hL1⟩
 have HL2:=hid hL1
 have c2:=HL2.out.cell
 have z2:=HL2.out.frozen
 clear hL1
 go_wp2_with fail
 refine leaves_cons (f:=15) (args:=#[.pointer (some ⟨w.heap.size + 1,0,none⟩)]) (by simp) (by simp [go_sem]) ?_
 refine (lcatch_idle _ _).mono ?_
 rintro e u' w9 ⟨rfl,rfl,hb9⟩
 obtain ⟨c9,ml9,A9,hs9,hk9⟩:=HL2.out.fin ⟨#[111,107]⟩ w9 hb9
 simp [Leaves,settle,results,Tryz.results10,go_sem,c9]
 exact ⟨rfl,⟨ml9,A9,hs9⟩,hk9⟩
theorem line_off (B b : Nat) (m : SS) (ml : List Mr) (A : Value)  (w : World) (h : SetAt B b m ml A w) (hl : LibE B w) (hsm : m.small 3000) :
 Calls Tryz.prog 10 #[.agg #[.pointer (some ⟨b,0,none⟩)],.string ⟨#[111,102,102]⟩] w (LineTo (okyW) B b ({ m with on:=false }) w):=by
 have hmf:=mkf
 have HL0:=hid (LnE.start h hl)
 have hhB:=h.hBw
 unfold LineTo
 have HT : Hid (∀ W,LnE B b m w W → Calls Tryz.prog 19 #[.pointer (some ⟨b,0,none⟩),.bool false] W (fun e w' => e = .returned (.tuple #[]) ∧ LnE B b { m with on:=false } w w')):=hid fun W hW => by
  obtain ⟨ml',A',hs⟩:=hW.set
  refine (Filter_set B b m ml' A' false W hs).mono ?_
  rintro e w' ⟨rfl,ml2,A2,hs2,hk⟩
  exact ⟨rfl,hW.next ⟨ml2,A2,hs2⟩ hk⟩
 clear h hl hsm
 go_enter_defers Tryz.func10,Tryz.ntmps10
 go_wp2_with fail
 refine (HT.out _ HL0.out).mono ?_
 rintro e w1 ⟨rfl,hL1⟩
 have HL2:=hid hL1
 have c2:=HL2.out.cell
 have z2:=HL2.out.frozen
 clear hL1
 go_wp2_with fail
 refine leaves_cons (f:=15) (args:=#[.pointer (some ⟨w.heap.size + 1,0,none⟩)]) (by simp) (by simp [go_sem]) ?_
 refine (lcatch_idle _ _).mono ?_
 rintro e u' w9 ⟨rfl,rfl,hb9⟩
 obtain ⟨c9,ml9,A9,hs9,hk9⟩:=HL2.out.fin ⟨#[111,107]⟩ w9 hb9
 simp [Leaves,settle,results,Tryz.results10,go_sem,c9]
 exact ⟨rfl,⟨ml9,A9,hs9⟩,hk9⟩
theorem line_nocut (B b : Nat) (m : SS) (ml : List Mr) (A : Value) (s : ByteArray) (nl : NL s) (hc : cutAt 32 s.data.toList = none) (w : World) (h : SetAt B b m ml A w) (hl : LibE B w) (hsm : m.small 3000) :
 Calls Tryz.prog 10 #[.agg #[.pointer (some ⟨b,0,none⟩)],.string s] w (LineTo (badW) B b (m) w):=by
 have hmf:=mkf
 have HL0:=hid (LnE.start h hl)
 have hhB:=h.hBw
 unfold LineTo
 obtain ⟨hs,e1,e2,e3,e4⟩:=nl.at
 clear nl
 have HC:=hid fun W => Cut_none s hs hc W
 clear h hl hsm hc
 go_enter_defers Tryz.func10,Tryz.ntmps10
 go_wp2_with fail
 refine (HC.out _).mono ?_
 rintro e w1 ⟨rfl,hb1⟩
 have HL2:=hid (HL0.out.below hb1)
 have c2:=HL2.out.cell
 have z2:=HL2.out.frozen
 clear hb1
 go_wp2_with fail
 refine leaves_cons (f:=15) (args:=#[.pointer (some ⟨w.heap.size + 1,0,none⟩)]) (by simp) (by simp [go_sem]) ?_
 refine (lcatch_idle _ _).mono ?_
 rintro e u' w9 ⟨rfl,rfl,hb9⟩
 obtain ⟨c9,ml9,A9,hs9,hk9⟩:=HL2.out.fin ⟨#[98,97,100]⟩ w9 hb9
 simp [Leaves,settle,results,Tryz.results10,go_sem,c9]
 exact ⟨rfl,⟨ml9,A9,hs9⟩,hk9⟩
theorem line_other (B b : Nat) (m : SS) (ml : List Mr) (A : Value) (s : ByteArray) (nl : NL s) (wd rb : ByteArray) (hc : cutAt 32 s.data.toList = some (wd.data.toList,rb.data.toList)) (r1 : wd.data.toList ≠ [97,100,100]) (r2 : wd.data.toList ≠ [114,101,109,111,118,101]) (r3 : wd.data.toList ≠ [115,99,97,110]) (r4 : wd.data.toList ≠ [112,117,116]) (w : World) (h : SetAt B b m ml A w) (hl : LibE B w) (hsm : m.small 3000) :
 Calls Tryz.prog 10 #[.agg #[.pointer (some ⟨b,0,none⟩)],.string s] w (LineTo (badW) B b (m) w):=by
 have hmf:=mkf
 have HL0:=hid (LnE.start h hl)
 have hhB:=h.hBw
 unfold LineTo
 obtain ⟨hs,e1,e2,e3,e4⟩:=nl.at
 clear nl
 have f1:=eq_lits r1
 have f2:=eq_lits r2
 have f3:=eq_lits r3
 have f4:=eq_lits r4
 have hz:=cut_sz hc
 have HC:=hid fun W => Cut_some s _ rb hs hc W
 clear hc
 clear h hl hsm r1 r2 r3 r4
 go_enter_defers Tryz.func10,Tryz.ntmps10
 go_wp2_with fail
 refine (HC.out _).mono ?_
 rintro e w1 ⟨rfl,hb1⟩
 have HL1:=hid (HL0.out.below hb1)
 have c1:=HL1.out.cell
 have z1:=HL1.out.frozen
 have s1:=HL1.out.cellS
 clear hb1
 go_wp2_with fail
 refine leaves_cons (f:=15) (args:=#[.pointer (some ⟨w.heap.size + 1,0,none⟩)]) (by simp) (by simp [go_sem]) ?_
 refine (lcatch_idle _ _).mono ?_
 rintro e u' w9 ⟨rfl,rfl,hb9⟩
 obtain ⟨c9,ml9,A9,hs9,hk9⟩:=HL1.out.fin ⟨#[98,97,100]⟩ w9 hb9
 simp [Leaves,settle,results,Tryz.results10,go_sem,c9]
 exact ⟨rfl,⟨ml9,A9,hs9⟩,hk9⟩
theorem line_add (B b : Nat) (m : SS) (ml : List Mr) (A : Value) (s : ByteArray) (nl : NL s) (rb : ByteArray) (hc : cutAt 32 s.data.toList = some ((⟨#[97,100,100]⟩ : ByteArray).data.toList,rb.data.toList)) (w : World) (h : SetAt B b m ml A w) (hl : LibE B w) (hsm : m.small 3000) :
 Calls Tryz.prog 10 #[.agg #[.pointer (some ⟨b,0,none⟩)],.string s] w (LineTo (toldW (Lib.decDigits (m.added rb).1) (m.added rb).2.1 (m.added rb).2.2.toNat) B b (m.add rb) w):=by
 have hmf:=mkf
 have HL0:=hid (LnE.start h hl)
 have hhB:=h.hBw
 unfold LineTo
 obtain ⟨hs,e1,e2,e3,e4⟩:=nl.at
 clear nl
 have hz:=cut_sz hc
 have HC:=hid fun W => Cut_some s _ rb hs hc W
 clear hc
 obtain ⟨a1,a2,a3,a4⟩:=added_small hsm (by omega) rb
 have hlast:=hsm.last
 have HA : Hid (∀ W,LnE B b m w W → Calls Tryz.prog 22 #[.pointer (some ⟨b,0,none⟩),.string rb] W (fun e w' => e = .returned (.tuple #[.int .i64 ((m.added rb).1 : Int),.int .i64 ((m.added rb).2.1 : Int),errV (m.added rb).2.2]) ∧ LnE B b (m.add rb) w w')):=hid fun W hW => by
  obtain ⟨ml',A',hs⟩:=hW.set
  obtain ⟨ev,hev⟩:=hW.lib.syn
  refine (Add_set B b m ml' A' rb W hs hev (by omega)).mono ?_
  rintro e w' ⟨rfl,ml2,A2,hs2,hk⟩
  exact ⟨rfl,hW.next ⟨ml2,A2,hs2⟩ hk⟩
 have hen : (m.added rb).2.2 = (((m.added rb).2.2.toNat : Nat) : Int):=by omega
 have hen2 : (m.added rb).2.2.toNat ≤ 6:=by omega
 rw [hen] at HA
 obtain ⟨D,hD,hDl,hDz⟩:=dec_sz (n:=(m.added rb).1) (by omega)
 have HI : Hid (∀ W,LnE B b (m.add rb) w W → Calls Tryz.prog 20 #[.int .i64 ((m.added rb).1 : Int)] W (fun e w' => e = .returned (.string D) ∧ Below W.heap.size W w')):=hid fun W hW => by rw [hD];exact Itoa_c _ (by omega) W hW.lib.tab
 have HTO : Hid (∀ W,LnE B b (m.add rb) w W → Calls Tryz.prog 23 #[.string D,.int .i64 ((m.added rb).2.1 : Int),errV (((m.added rb).2.2.toNat : Nat) : Int)] W (fun e w' => ∃ t : ByteArray,e = .returned (.string t) ∧ t.data.toList = toldW (Lib.decDigits (m.added rb).1) (m.added rb).2.1 (m.added rb).2.2.toNat ∧ Below W.heap.size W w')):=hid fun W hW => by
  have:=told_c D (m.added rb).2.1 (m.added rb).2.2.toNat hen2 (by omega) W hW.lib.err hW.lib.tab
  rw [hDl] at this
  exact this
 clear h hl hsm hen hen2 hD hDl a3 a4
 generalize toldW (Lib.decDigits (m.added rb).1) (m.added rb).2.1 (m.added rb).2.2.toNat = R at *
 generalize errV (((m.added rb).2.2.toNat : Nat) : Int) = EV at *
 generalize (m.added rb).1 = n1 at *
 generalize (m.added rb).2.1 = n2 at *
 generalize m.add rb = m2 at *
 go_enter_defers Tryz.func10,Tryz.ntmps10
 go_wp2_with fail
 refine (HC.out _).mono ?_
 rintro e w1 ⟨rfl,hb1⟩
 have HL1:=hid (HL0.out.below hb1)
 have c1:=HL1.out.cell
 have z1:=HL1.out.frozen
 have s1:=HL1.out.cellS
 clear hb1
 go_wp2_with fail
 refine (HA.out _ HL1.out).mono ?_
 rintro e w2 ⟨rfl,hl2⟩
 have HL2:=hid hl2
 clear hl2 c1 z1 s1
 go_wp2_with fail
 refine (HI.out _ HL2.out).mono ?_
 rintro e w3 ⟨rfl,hb3⟩
 have HL3:=hid (HL2.out.below hb3)
 clear hb3
 go_wp2_with fail
 refine (HTO.out _ HL3.out).mono ?_
 rintro e w4 ⟨t,rfl,ht,hb4⟩
 have HT:=hid ht
 have HL4:=hid (HL3.out.below hb4)
 have c4:=HL4.out.cell
 have z4:=HL4.out.frozen
 clear ht hb4
 go_wp2_with fail
 refine leaves_cons (f:=15) (args:=#[.pointer (some ⟨w.heap.size + 1,0,none⟩)]) (by simp) (by simp [go_sem]) ?_
 refine (lcatch_idle _ _).mono ?_
 rintro e u' w9 ⟨rfl,rfl,hb9⟩
 obtain ⟨c9,ml9,A9,hs9,hk9⟩:=HL4.out.fin t w9 hb9
 simp [Leaves,settle,results,Tryz.results10,go_sem,c9]
 exact ⟨HT.out,⟨ml9,A9,hs9⟩,hk9⟩
theorem line_scan (B b : Nat) (m : SS) (ml : List Mr) (A : Value) (s : ByteArray) (nl : NL s) (rb : ByteArray) (hc : cutAt 32 s.data.toList = some ((⟨#[115,99,97,110]⟩ : ByteArray).data.toList,rb.data.toList)) (xs : List (Nat × Nat × Nat)) (hx1 : xs.length ≤ 4812) (hx2 : ∀ q ∈ xs,q.1 ≤ 750 ∧ q.2.1 ≤ 400 ∧ q.2.2 ≤ 400) (EV : Value) (n : Nat) (hn : n ≤ 6) (hEV : EV = errV (n : Int)) (m2 : SS) (w : World) (h : SetAt B b m ml A w) (hl : LibE B w) (hsm : m.small 3000)
 (hsc : ∀ W,LnE B b m w W → Calls Tryz.prog 26 #[.pointer (some ⟨b,0,none⟩),.string rb] W (fun e w' => ∃ v : Value,e = .returned (.tuple #[v,EV]) ∧ Rd w' 3 v (xs.flatMap hitCells) ∧ LnE B b m2 w w')) :
 Calls Tryz.prog 10 #[.agg #[.pointer (some ⟨b,0,none⟩)],.string s] w (LineTo (toldW (orNoneW (wordsW (xs.map hitW))) 0 n) B b (m2) w):=by
 have hmf:=mkf
 have HL0:=hid (LnE.start h hl)
 have hhB:=h.hBw
 unfold LineTo
 obtain ⟨hs,e1,e2,e3,e4⟩:=nl.at
 clear nl
 have hz:=cut_sz hc
 have HC:=hid fun W => Cut_some s _ rb hs hc W
 clear hc
 have HSC : Hid (∀ W,LnE B b m w W → Calls Tryz.prog 26 #[.pointer (some ⟨b,0,none⟩),.string rb] W (fun e w' => ∃ v : Value,e = .returned (.tuple #[v,EV]) ∧ Rd w' 3 v (xs.flatMap hitCells) ∧ LnE B b m2 w w')):=hid fun W hW => hsc W hW
 have HW : Hid (∀ W v,LnE B b m2 w W → Rd W 3 v (xs.flatMap hitCells) → Calls Tryz.prog 28 #[v,.func (.func 27) #[] #[]] W (fun e w' => ∃ t : ByteArray,e = .returned (.string t) ∧ t.data.toList = orNoneW (wordsW (xs.map hitW)) ∧ Below W.heap.size W w')):=hid fun W v hW hr => words_hits xs hx1 14 (by omega) hitW (fun x hx => ⟨by simp [hitW];omega,hitW_len (Nat.le_trans (hx2 x hx).1 (by omega)) (hx2 x hx).2.1 (hx2 x hx).2.2⟩) v W hr (hid fun k x hk W' hW' => by
  obtain ⟨i,a,b'⟩:=x
  have hq:=hx2 _ (List.mem_of_getElem? hk)
  exact hit_c i a b' (by have:=hq.1;dsimp only at this;omega) (by have:=hq.2.1;dsimp only at this;omega) (by have:=hq.2.2;dsimp only at this;omega) W' (hW.lib.tab.below hW'))
 have HTO : Hid (∀ W (t : ByteArray),LnE B b m2 w W → Calls Tryz.prog 23 #[.string t,.int .i64 0,EV] W (ToldTo (toldW t.data.toList 0 n) W)):=hid fun W t hW => by rw [hEV];exact told_c t 0 n hn (by omega) W hW.lib.err hW.lib.tab
 unfold ToldTo at HTO
 clear h hl hsm hsc hx1 hx2 hEV hn
 generalize orNoneW (wordsW (xs.map hitW)) = R at *
 go_enter_defers Tryz.func10,Tryz.ntmps10
 go_wp2_with fail
 refine (HC.out _).mono ?_
 rintro e w1 ⟨rfl,hb1⟩
 have HL1:=hid (HL0.out.below hb1)
 have c1:=HL1.out.cell
 have z1:=HL1.out.frozen
 have s1:=HL1.out.cellS
 clear hb1
 go_wp2_with fail
 refine (HSC.out _ HL1.out).mono ?_
 rintro e w2 ⟨v,rfl,hr,hl2⟩
 have HR:=hid hr
 have HL2:=hid hl2
 clear hr hl2 c1 z1 s1
 go_wp2_with fail
 refine (HW.out _ v HL2.out HR.out).mono ?_
 rintro e w3 ⟨t0,rfl,ht0,hb3⟩
 have HT0:=hid ht0
 have HL3:=hid (HL2.out.below hb3)
 clear ht0 hb3
 go_wp2_with fail
 refine (HTO.out _ t0 HL3.out).mono ?_
 rintro e w4 ⟨t,rfl,ht,hb4⟩
 have HT:=hid ht
 have HL4:=hid (HL3.out.below hb4)
 have c4:=HL4.out.cell
 have z4:=HL4.out.frozen
 clear ht hb4
 go_wp2_with fail
 refine leaves_cons (f:=15) (args:=#[.pointer (some ⟨w.heap.size + 1,0,none⟩)]) (by simp) (by simp [go_sem]) ?_
 refine (lcatch_idle _ _).mono ?_
 rintro e u' w9 ⟨rfl,rfl,hb9⟩
 obtain ⟨c9,ml9,A9,hs9,hk9⟩:=HL4.out.fin t w9 hb9
 simp [Leaves,settle,results,Tryz.results10,go_sem,c9]
 exact ⟨by rw [HT.out,HT0.out],⟨ml9,A9,hs9⟩,hk9⟩
end Go.Proofs.YthhcpbfgoofppaaGreatDoor.setW
