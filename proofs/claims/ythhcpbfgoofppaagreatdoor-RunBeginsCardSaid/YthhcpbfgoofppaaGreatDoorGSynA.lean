/-
  SynA, SynB, SynC, SynD.
-/
import Derived.Test.YthhcpbfgoofppaaGreatDoorGCls
import Derived.Test.YthhcpbfgoofppaaGreatDoorGPu
import Derived.Test.YthhcpbfgoofppaaGreatDoorGPy
set_option linter.unusedVariables false
set_option linter.unusedSimpArgs false
set_option maxRecDepth 100000
set_option maxHeartbeats 8000000
open Go.Lib (hid)
namespace Go.Proofs.YthhcpbfgoofppaaGreatDoor
open Go.RowKit Wf
def stopV (k : Nat) : Value:=.iface 188 (.agg #[.int .i64 (k : Int)])
structure PW (w0 : World) (pb : Nat) (s : ByteArray) (i : Nat) (w : World) : Prop where
 par : Blk w pb 135 #[.string s,.int .i64 (i : Int)]
 grow : w0.grownBy w (some pb)
 lt : pb < w0.heap.size
def PS (w0 : World) (pb k : Nat) (e : Ending) (w : World) : Prop:=e = .panicked [{ v:=stopV k,recovered:=false }] ∧ w0.grownBy w (some pb)
section
variable {w0 w w' : World} {pb i j k : Nat} {s : ByteArray}
theorem PW.start (h : Blk w pb 135 #[.string s,.int .i64 (i : Int)]) : PW w pb s i w:=⟨h,⟨rfl,rfl,rfl,Nat.le_refl _,fun _ _ _ => rfl⟩,h.lt⟩
theorem PW.trans (h : PW w0 pb s i w) (h' : PW w pb s j w') : PW w0 pb s j w':=⟨h'.par,h.grow.trans h'.grow,h.lt⟩
theorem PW.here (h : PW w0 pb s i w) : PW w pb s i w:=PW.start h.par
theorem PW.stop {e : Ending} (h : PW w0 pb s i w) (h' : PS w pb k e w') : PS w0 pb k e w':=⟨h'.1,h.grow.trans h'.2⟩
theorem PW.below (h : PW w0 pb s i w) (hb : Below w.heap.size w w') : PW w0 pb s i w':=⟨h.par.kept hb,h.grow.trans ⟨hb.os,hb.tape,hb.output,hb.size,fun q hq _ => hb.block q hq⟩,h.lt⟩
theorem PW.one (h : PW w0 pb s i w) (j : Nat) : PW w0 pb s j (w.setCell ⟨pb,1,none⟩ (.int .i64 (j : Int))) :=
 ⟨h.par.set_ 1 _,h.grow.trans ⟨rfl,rfl,rfl,by simp,fun q _ hn => Below.heap_setCell w _ _ q (fun e => hn (by rw [e]))⟩,h.lt⟩
theorem PW.c0 (h : PW w0 pb s i w) : w.cell? ⟨pb,0,none⟩ = some (.string s):=h.par.cell 0
theorem PW.c1 (h : PW w0 pb s i w) : w.cell? ⟨pb,1,none⟩ = some (.int .i64 (i : Int)):=h.par.cell 1
theorem PW.f1 (h : PW w0 pb s i w) : w.frozen? ⟨pb,1,none⟩ = false:=h.par.frozen 1
end
def PeekIs (c : Nat) (b : Bool) (w : World) (e : Ending) (w' : World) : Prop:=e = .returned (.tuple #[.int .u8 (c : Int),.bool b]) ∧ Below w.heap.size w w'
theorem at_get {s : ByteArray} {i : Nat} {c : UInt8} (h : s.data.toList[i]? = some c) : ∃ hi : i < s.size,s[i] = c:=by
 obtain ⟨hi,he⟩:=List.getElem?_eq_some_iff.1 h
 have hs : i < s.size:=by simpa using hi
 exact ⟨hs,by rw [← he];simp [ByteArray.getElem_eq_getElem_data]⟩
theorem at_none {s : ByteArray} {i : Nat} (h : s.data.toList[i]? = none) : s.size ≤ i:=by
 have:=List.getElem?_eq_none_iff.1 h
 simpa using this
theorem at_end (s : ByteArray) : s.data.toList.length = s.size:=by simp
theorem peek_some {pb : Nat} {s : ByteArray} {i : Nat} {c : UInt8} (w : World) (h : PW w pb s i w) (hs : s.size ≤ 200) (hc : s.data.toList[i]? = some c) :
 Calls Tryz.prog 175 #[.pointer (some ⟨pb,0,none⟩)] w (PeekIs c.toNat true w):=by
 obtain ⟨hi,he⟩:=at_get hc
 have c0:=h.c0
 have c1:=h.c1
 have hcond : decide ((i : Int) < (s.size : Int)) = true:=by simp;omega
 have hz : (0 : Int) ≤ (i : Int):=by omega
 have hn : i < s.size:=hi
 have HE:=hid he
 clear h hc he
 unfold PeekIs
 go_enter Tryz.func175,Tryz.ntmps175
 go_wp2
 go_quiet (fail)
 go_wp2
 go_quiet (fail)
 go_wp2
 go_ret2
 exact ⟨by rw [HE.out];rfl,below_drewN (below_drewN (Below.refl _ _) _) _⟩
theorem peek_none {pb : Nat} {s : ByteArray} {i : Nat} (w : World) (h : PW w pb s i w) (hs : s.size ≤ 200) (hi2 : i ≤ s.size) (hc : s.data.toList[i]? = none) :
 Calls Tryz.prog 175 #[.pointer (some ⟨pb,0,none⟩)] w (PeekIs 0 false w):=by
 have hi:=at_none hc
 have c0:=h.c0
 have c1:=h.c1
 have hcond : decide ((i : Int) < (s.size : Int)) = false:=by simp;omega
 clear h hc
 unfold PeekIs
 go_enter Tryz.func175,Tryz.ntmps175
 go_wp2
 go_quiet (fail)
 go_wp2
 go_ret2
 exact ⟨rfl,below_drewN (Below.refl _ _) _⟩
def IsYes (pb : Nat) (s : ByteArray) (i : Nat) (w : World) (e : Ending) (w' : World) : Prop:=e = .returned (.bool true) ∧ PW w pb s (i + 1) w'
def IsNo (w : World) (e : Ending) (w' : World) : Prop:=e = .returned (.bool false) ∧ Below w.heap.size w w'
theorem is_yes {pb : Nat} {s : ByteArray} {i : Nat} {c : UInt8} (w : World) (h : PW w pb s i w) (hs : s.size ≤ 200) (hc : s.data.toList[i]? = some c) :
 Calls Tryz.prog 149 #[.pointer (some ⟨pb,0,none⟩),.int .u8 (c.toNat : Int)] w (IsYes pb s i w):=by
 obtain ⟨hi,he⟩:=at_get hc
 have H:=hid (fun w' (hb : Below w.heap.size w w') => h.below hb)
 have HP:=hid (peek_some w h hs hc)
 have hbd : i + 1 ≤ 200:=by omega
 have hb : ((c.toNat : Int) != (c.toNat : Int)) = false:=by simp
 clear h hc he
 unfold IsYes
 go_enter Tryz.func149,Tryz.ntmps149
 go_wp2_with (go_at_call 175;refine HP.out.mono ?_;rintro e w1 ⟨rfl,hb1⟩;have c0:=(H.out w1 hb1).c0;have c1:=(H.out w1 hb1).c1;have f1:=(H.out w1 hb1).f1;have HB:=hid hb1;clear hb1)
 go_wp2
 go_ret
 refine ⟨rfl,?_⟩
 have:=(H.out w1 HB.out).one (i + 1)
 push_cast at this
 exact this
theorem is_no {pb : Nat} {s : ByteArray} {i : Nat} {c : UInt8} (w : World) (h : PW w pb s i w) (hs : s.size ≤ 200) (hi2 : i ≤ s.size) (hc : s.data.toList[i]? ≠ some c) :
 Calls Tryz.prog 149 #[.pointer (some ⟨pb,0,none⟩),.int .u8 (c.toNat : Int)] w (IsNo w):=by
 cases hg : s.data.toList[i]? with
 | none =>
   have H:=hid (fun w' (hb : Below w.heap.size w w') => h.below hb)
   have HP:=hid (peek_none w h hs hi2 hg)
   clear h hc hg
   unfold IsNo
   go_enter Tryz.func149,Tryz.ntmps149
   go_wp2_with (go_at_call 175;refine HP.out.mono ?_;rintro e w1 ⟨rfl,hb1⟩;have c0:=(H.out w1 hb1).c0;have c1:=(H.out w1 hb1).c1;have f1:=(H.out w1 hb1).f1;have HB:=hid hb1;clear hb1)
   go_ret
   exact ⟨rfl,HB.out⟩
 | some d =>
   have H:=hid (fun w' (hb : Below w.heap.size w w') => h.below hb)
   have HP:=hid (peek_some w h hs hg)
   have hne : d.toNat ≠ c.toNat:=fun e => hc (by rw [hg,UInt8.toNat_inj.1 e])
   have hb : ((d.toNat : Int) != (c.toNat : Int)) = true:=by simp;omega
   clear h hc hg
   unfold IsNo
   go_enter Tryz.func149,Tryz.ntmps149
   go_wp2_with (go_at_call 175;refine HP.out.mono ?_;rintro e w1 ⟨rfl,hb1⟩;have c0:=(H.out w1 hb1).c0;have c1:=(H.out w1 hb1).c1;have f1:=(H.out w1 hb1).f1;have HB:=hid hb1;clear hb1)
   go_ret
   exact ⟨rfl,HB.out⟩
def NextIs8 (pb : Nat) (s : ByteArray) (i c : Nat) (w : World) (e : Ending) (w' : World) : Prop:=e = .returned (.int .u8 (c : Int)) ∧ PW w pb s (i + 1) w'
theorem next_some {pb : Nat} {s : ByteArray} {i : Nat} {c : UInt8} (w : World) (h : PW w pb s i w) (hs : s.size ≤ 200) (hc : s.data.toList[i]? = some c) :
 Calls Tryz.prog 220 #[.pointer (some ⟨pb,0,none⟩)] w (NextIs8 pb s i c.toNat w):=by
 obtain ⟨hi,he⟩:=at_get hc
 have H:=hid (fun w' (hb : Below w.heap.size w w') => h.below hb)
 have HP:=hid (peek_some w h hs hc)
 have hbd : i + 1 ≤ 200:=by omega
 clear h hc he
 unfold NextIs8
 go_enter Tryz.func220,Tryz.ntmps220
 go_wp2_with (go_at_call 175;refine HP.out.mono ?_;rintro e w1 ⟨rfl,hb1⟩;have c0:=(H.out w1 hb1).c0;have c1:=(H.out w1 hb1).c1;have f1:=(H.out w1 hb1).f1;have HB:=hid hb1;clear hb1)
 go_ret
 refine ⟨rfl,?_⟩
 have:=(H.out w1 HB.out).one (i + 1)
 push_cast at this
 exact this
theorem next_none {pb : Nat} {s : ByteArray} {i : Nat} (w : World) (h : PW w pb s i w) (hs : s.size ≤ 200) (hi2 : i ≤ s.size) (hc : s.data.toList[i]? = none) :
 Calls Tryz.prog 220 #[.pointer (some ⟨pb,0,none⟩)] w (PS w pb s.size):=by
 have H:=hid (fun w' (hb : Below w.heap.size w w') => h.below hb)
 have HP:=hid (peek_none w h hs hi2 hc)
 clear h hc
 unfold PS stopV
 go_enter Tryz.func220,Tryz.ntmps220
 go_wp2_with (go_at_call 175;refine HP.out.mono ?_;rintro e w1 ⟨rfl,hb1⟩;have c0:=(H.out w1 hb1).c0;have c1:=(H.out w1 hb1).c1;have f1:=(H.out w1 hb1).f1;have HB:=hid hb1;clear hb1)
 exact ⟨rfl,rfl,(H.out w1 HB.out).grow⟩
def hexU (c : Nat) : Option Nat:=if 48 ≤ c ∧ c ≤ 57 then some (c - 48) else if 65 ≤ c ∧ c ≤ 70 then some (c - 55) else if 97 ≤ c ∧ c ≤ 102 then some (c - 87) else none
theorem low_or : ∀ c : Fin 256,bits .or .u8 ((c.val : Nat) : Int) 32 = (((c.val ||| 32 : Nat)) : Int):=by decide +kernel
theorem low_hexF : ∀ (c : Fin 256) (a : Fin 16),hexU c.val = some a.val → (48 ≤ c.val ∧ c.val ≤ 57 ∧ c.val = a.val + 48) ∨ (¬ (48 ≤ c.val ∧ c.val ≤ 57) ∧ 10 ≤ a.val ∧ (c.val ||| 32) = a.val + 87 ∧ c.val ≠ 95):=by decide +kernel
theorem hexU_lt {c a : Nat} (h : hexU c = some a) : a < 16 ∧ c < 256:=by
 unfold hexU at h
 split at h
 ·cases h;omega
 ·split at h
  ·cases h;omega
  ·split at h
   ·cases h;omega
   ·cases h
theorem low_hex {c a : Nat} (h : hexU c = some a) : (48 ≤ c ∧ c ≤ 57 ∧ c = a + 48) ∨ (¬ (48 ≤ c ∧ c ≤ 57) ∧ 10 ≤ a ∧ (c ||| 32) = a + 87 ∧ c ≠ 95):=low_hexF ⟨c,(hexU_lt h).2⟩ ⟨a,(hexU_lt h).1⟩ h
theorem low_bad : ∀ c : Fin 256,hexU c.val = none → ¬ (48 ≤ c.val ∧ c.val ≤ 57) ∧ (c.val ||| 32) < 256 ∧ ((c.val ||| 32) < 97 ∨ 103 ≤ (c.val ||| 32)):=by decide +kernel
def LowIs (l : Nat) (w : World) (e : Ending) (w' : World) : Prop:=e = .returned (.int .u8 (l : Int)) ∧ w = w'
theorem lower_c (c : Nat) (hc : c < 256) (w : World) : Calls Tryz.prog 178 #[.int .u8 (c : Int)] w (LowIs (c ||| 32) w):=by
 refine (AnyPu.internal_strconv_lower layLow (c : Int) w).mono ?_
 rintro e w' ⟨rfl,rfl⟩
 exact ⟨by rw [low_or ⟨c,hc⟩],rfl⟩
structure InU (t : ByteArray) (c : Nat) : Prop where
 lt : c < 256
 s0 : 0 < t.size
 s2 : t.size ≤ 2
 get : t.data.toList.getD 0 0 = UInt8.ofNat c
def InnerOk (a : Nat) (w : World) (e : Ending) (w' : World) : Prop:=e = .returned (.tuple #[.int .u64 (a : Int),.nilIface]) ∧ Below w.heap.size w w'
def InnerBad (w : World) (e : Ending) (w' : World) : Prop:=e = .returned (.tuple #[.int .u64 0,.iface 210 (.int .i64 2)]) ∧ Below w.heap.size w w'
theorem bytes_below (w : World) (t : ByteArray) : Below w.heap.size w (Lib.bytesWorld w 5 t):=Lib.bytesWorld_below w _ t
theorem inner_bad (t : ByteArray) (c : Nat) (ht : InU t c) (hh : hexU c = none) (h95 : c ≠ 95) (w : World) :
 Calls Tryz.prog 152 #[.string t,.int .i64 16,.int .i64 8] w (InnerBad w):=by
 have hb95 : ((c : Int) == 95) = false:=by simp;omega
 obtain ⟨hc,h0,h2,hget⟩:=ht
 obtain ⟨hd,hl2,hl⟩:=low_bad ⟨c,hc⟩ hh
 have hd' : ¬ (48 ≤ c ∧ c ≤ 57):=hd
 have hl2' : c ||| 32 < 256:=hl2
 have hl' : c ||| 32 < 97 ∨ 103 ≤ c ||| 32:=hl
 have HLOW:=hid (fun W => lower_c c hc W)
 have hemp : t.toList.isEmpty = false:=by
  rw [← decide_eq_emptyBytes]
  exact decide_eq_false (fun h => absurd h0 (by rw [h];decide))
 have hcv:=Lib.run_convert_string_bytes (P:=Tryz.prog) w 9 30 5 t (u:=.string) Tryz.underlying9 Tryz.underlying30 Tryz.underlying5
 have hB:=Lib.bytesWorld_cell w 5 t 0 h0
 have HBB:=hid (bytes_below w t)
 rw [hget] at hB
 have hc2 : ((UInt8.ofNat c).toNat : Int) = (c : Int):=by simp;omega
 rw [hc2] at hB
 obtain ⟨W1,hW1⟩ : ∃ W1,W1 = Lib.bytesWorld w 5 t:=⟨_,rfl⟩
 rw [← hW1] at hcv hB HBB
 generalize hlv : c ||| 32 = l at HLOW hl2' hl'
 clear hW1 hget hd hl2 hl hlv hc2
 unfold InnerBad
 go_enter Tryz.func152,Tryz.ntmps152
 go_wp2
 go_loop [101] (fun vi => vi = .int .i64 0) (fun _ => 0)
 case atStart => rfl
 case round =>
  obtain rfl:=hrel
  rcases hl' with hl' | hl'
  ·go_wp2_with (go_at_call 178;refine (HLOW.out _).mono ?_;rintro e w' ⟨rfl,rfl⟩)
   all_goals go_ret2
   all_goals exact ⟨rfl,HBB.out⟩
  ·go_wp2_with (go_at_call 178;refine (HLOW.out _).mono ?_;rintro e w' ⟨rfl,rfl⟩)
   all_goals go_ret2
   all_goals exact ⟨rfl,HBB.out⟩
theorem inner_us (t : ByteArray) (ht : InU t 95) (w : World) :
 Calls Tryz.prog 152 #[.string t,.int .i64 16,.int .i64 8] w (InnerBad w):=by
 obtain ⟨hc,h0,h2,hget⟩:=ht
 have HLOW : Hid (∀ W,Calls Tryz.prog 178 #[.int .u8 95] W (LowIs 127 W)):=hid (fun W => lower_c 95 (by decide) W)
 have hemp : t.toList.isEmpty = false:=by
  rw [← decide_eq_emptyBytes]
  exact decide_eq_false (fun h => absurd h0 (by rw [h];decide))
 have hcv:=Lib.run_convert_string_bytes (P:=Tryz.prog) w 9 30 5 t (u:=.string) Tryz.underlying9 Tryz.underlying30 Tryz.underlying5
 have hB:=Lib.bytesWorld_cell w 5 t 0 h0
 have HBB:=hid (bytes_below w t)
 rw [hget] at hB
 have hc2 : ((UInt8.ofNat 95).toNat : Int) = 95:=by decide
 rw [hc2] at hB
 obtain ⟨W1,hW1⟩ : ∃ W1,W1 = Lib.bytesWorld w 5 t:=⟨_,rfl⟩
 rw [← hW1] at hcv hB HBB
 clear hW1 hget hc2
 unfold InnerBad
 go_enter Tryz.func152,Tryz.ntmps152
 go_wp2
 go_loop [101] (fun vi => vi = .int .i64 0) (fun _ => 0)
 case atStart => rfl
 case round =>
  obtain rfl:=hrel
  go_wp2_with (go_at_call 178;refine (HLOW.out _).mono ?_;rintro e w' ⟨rfl,rfl⟩)
  all_goals go_ret2
  all_goals exact ⟨rfl,HBB.out⟩
theorem inner_ok (t : ByteArray) (c a : Nat) (ht : InU t c) (h1 : t.size = 1) (hh : hexU c = some a) (w : World) :
 Calls Tryz.prog 152 #[.string t,.int .i64 16,.int .i64 8] w (InnerOk a w):=by
 obtain ⟨hc,h0,h2,hget⟩:=ht
 have ha:=(hexU_lt hh).1
 have hlow:=low_hex hh
 have HLOW:=hid (fun W => lower_c c hc W)
 have hemp : t.toList.isEmpty = false:=by
  rw [← decide_eq_emptyBytes]
  exact decide_eq_false (fun h => absurd h0 (by rw [h];decide))
 have hcv:=Lib.run_convert_string_bytes (P:=Tryz.prog) w 9 30 5 t (u:=.string) Tryz.underlying9 Tryz.underlying30 Tryz.underlying5
 rw [h1] at hcv
 have hB:=Lib.bytesWorld_cell w 5 t 0 h0
 have HBB:=hid (bytes_below w t)
 rw [hget] at hB
 have hc2 : ((UInt8.ofNat c).toNat : Int) = (c : Int):=by simp;omega
 rw [hc2] at hB
 obtain ⟨W1,hW1⟩ : ∃ W1,W1 = Lib.bytesWorld w 5 t:=⟨_,rfl⟩
 rw [← hW1] at hcv hB HBB
 have hb95 : ((c : Int) == 95) = false:=by simp;omega
 generalize hlv : c ||| 32 = l at HLOW hlow
 clear hW1 hget hlv hc2 hh h0 h2
 unfold InnerOk
 go_enter Tryz.func152,Tryz.ntmps152
 go_wp2
 go_loop [12,13,101] (fun vu vn vi => vu = .bool false ∧ ((vi = .int .i64 0 ∧ vn = .int .u64 0) ∨ (vi = .int .i64 1 ∧ vn = .int .u64 (a : Int)))) (fun _ _ vi => 1 - (intOf vi).toNat)
 case atStart => exact ⟨rfl,.inl ⟨rfl,rfl⟩⟩
 case round =>
  obtain ⟨rfl,hv⟩:=hrel
  rcases hv with ⟨rfl,rfl⟩ | ⟨rfl,rfl⟩
  ·rcases hlow with ⟨d1,d2,d3⟩ | ⟨d1,d2,d3,d4⟩
   ·have hsub : (c : Int) - 48 = (a : Int):=by omega
    go_wp2
    go_round
    case rel => exact ⟨rfl,.inr ⟨by go_num,by rw [← hsub]⟩⟩
    case measure => simp [intOf]
   ·have hsub : (l : Int) - 97 + 10 = (a : Int):=by omega
    go_wp2_with (go_at_call 178;refine (HLOW.out _).mono ?_;rintro e w' ⟨rfl,rfl⟩)
    all_goals exact ⟨⟨rfl,.inr ⟨rfl,by congr 1;omega⟩⟩,by simp [intOf]⟩
  ·go_wp2
   go_ret2
   exact ⟨rfl,HBB.out⟩
def SynE (ev : Value) (w : World) : Prop:=w.cell? ⟨3,0,none⟩ = some ev ∧ (ev = .nilIface ∨ ∃ te pe,ev = .iface te pe)
theorem SynE.below {ev : Value} {w w' : World} (h : SynE ev w) (hb : Below w.heap.size w w') : SynE ev w':=⟨(hb.cell (p:=⟨3,0,none⟩) (World.block_lt_of_cell? w _ h.1)).trans h.1,h.2⟩
def ParseBad (w : World) (e : Ending) (w' : World) : Prop:=∃ N,e = .returned (.tuple #[.int .u64 0,.iface 213 (.pointer (some ⟨N,0,none⟩))]) ∧ Below w.heap.size w w'
theorem parse_ok (t : ByteArray) (c a : Nat) (ht : InU t c) (h1 : t.size = 1) (hh : hexU c = some a) (w : World) :
 Calls Tryz.prog 225 #[.string t,.int .i64 16,.int .i64 8] w (InnerOk a w):=by
 have HI:=hid (inner_ok t c a ht h1 hh w)
 clear ht h1 hh
 unfold InnerOk at *
 go_enter Tryz.func225,Tryz.ntmps225
 go_wp2_with (go_at_call 152;refine HI.out.mono ?_;rintro e w' ⟨rfl,hb⟩)
 go_ret2
 exact ⟨rfl,hb⟩
theorem parse_bad (t : ByteArray) (c : Nat) (ht : InU t c) (hh : hexU c = none) (w : World) (ev : Value) (hE : SynE ev w) :
 Calls Tryz.prog 225 #[.string t,.int .i64 16,.int .i64 8] w (ParseBad w):=by
 have hin : Calls Tryz.prog 152 #[.string t,.int .i64 16,.int .i64 8] w (InnerBad w):=by
  by_cases h : c = 95
  ·subst h;exact inner_us t ht w
  ·exact inner_bad t c ht hh h w
 have HI:=hid hin
 have HT : Hid (∀ w',Below w.heap.size w w' → Calls Tryz.prog 84 #[.string ⟨#[80,97,114,115,101,85,105,110,116]⟩,.string t,.int .i64 16,.int .i64 8,.iface 210 (.int .i64 2)] w' fun e w2 => ∃ N,e = .returned (.iface 213 (.pointer (some ⟨N,0,none⟩))) ∧ Below w'.heap.size w' w2):=hid (fun w' hb => by
  have h2:=ht.s2
  refine (AnyPu.strconv_toError_syntax layErr _ t 16 8 ev w' (by omega) (hE.below hb).1 hE.2).mono ?_
  rintro e w2 ⟨N,rfl,_,_,h3⟩
  exact ⟨N,rfl,h3⟩)
 clear ht hh hE hin
 unfold ParseBad
 unfold InnerBad at HI
 go_enter Tryz.func225,Tryz.ntmps225
 go_wp2_with (first
  | (go_at_call 152;refine HI.out.mono ?_;rintro e w1 ⟨rfl,hb1⟩)
  | (go_at_call 84;refine (HT.out w1 hb1).mono ?_;rintro e w2 ⟨N,rfl,hb2⟩))
 go_ret2
 exact ⟨N,rfl,hb1.trans (hb2.mono hb1.size)⟩
theorem enc_in : ∀ c : Fin 256,(Utf8.encode ((c.val : Nat) : Int)).size ≤ 2 ∧ 0 < (Utf8.encode ((c.val : Nat) : Int)).size ∧ (c.val < 128 → (Utf8.encode ((c.val : Nat) : Int)).data.toList.getD 0 0 = UInt8.ofNat c.val ∧ (Utf8.encode ((c.val : Nat) : Int)).size = 1) ∧
 (128 ≤ c.val → 128 ≤ ((Utf8.encode ((c.val : Nat) : Int)).data.toList.getD 0 0).toNat):=by decide +kernel
theorem conv_any (c : Nat) (hc : c < 256) (w : World) : (convert 21 9 (.int .i32 (c : Int))).run Tryz.prog w = .ok (.string (Utf8.encode (c : Int))) w:=by
 simp [convert,run_underlying Tryz.underlying21,run_underlying Tryz.underlying9,Conv.intToString]
theorem hexU_hi {x : Nat} (h : 128 ≤ x) : hexU x = none:=by
 unfold hexU
 rw [if_neg (by omega),if_neg (by omega),if_neg (by omega)]
theorem enc_u (c : Nat) (hc : c < 256) : ∃ d,InU (Utf8.encode (c : Int)) d ∧ (c < 128 → d = c ∧ (Utf8.encode (c : Int)).size = 1) ∧ (128 ≤ c → hexU d = none):=by
 have hE:=enc_in ⟨c,hc⟩
 simp only at hE
 generalize Utf8.encode (c : Int) = t at hE ⊢
 obtain ⟨h1,h2,h3,h4⟩:=hE
 by_cases h : c < 128
 ·obtain ⟨h5,h6⟩:=h3 h
  exact ⟨c,⟨hc,h2,h1,h5⟩,fun _ => ⟨rfl,h6⟩,fun h' => by omega⟩
 ·have h5:=h4 (by show 128 ≤ c;omega)
  exact ⟨(t.data.toList.getD 0 0).toNat,⟨UInt8.toNat_lt _,h2,h1,by simp⟩,fun h' => absurd h' h,fun _ => hexU_hi h5⟩
theorem hexV_of (c : UInt8) : (∀ a,hexV c = some a → hexU c.toNat = some a ∧ ¬ (65 ≤ c.toNat ∧ c.toNat ≤ 70) ∧ c.toNat < 128) ∧ (hexV c = none → hexU c.toNat = none ∨ (65 ≤ c.toNat ∧ c.toNat ≤ 70)):=by
 unfold hexV hexU
 constructor
 ·intro a h
  split at h
  ·rename_i q;rw [if_pos q];exact ⟨h,by omega,by omega⟩
  ·split at h
   ·rename_i q;rw [if_neg (by omega),if_neg (by omega),if_pos q];exact ⟨h,by omega,by omega⟩
   ·cases h
 ·intro h
  split at h
  ·cases h
  ·split at h
   ·cases h
   ·by_cases q : 65 ≤ c.toNat ∧ c.toNat ≤ 70
    ·exact .inr q
    ·left;rw [if_neg (by omega),if_neg q,if_neg (by omega)]
def HexIs (pb : Nat) (s : ByteArray) (i a : Nat) (w : World) (e : Ending) (w' : World) : Prop:=e = .returned (.int .u8 (a : Int)) ∧ PW w pb s (i + 1) w'
theorem hex_none {pb : Nat} {s : ByteArray} {i : Nat} (w : World) (h : PW w pb s i w) (hs : s.size ≤ 200) (hi2 : i ≤ s.size) (hc : s.data.toList[i]? = none) (f : Nat) :
 Calls Tryz.prog 221 #[.pointer (some ⟨pb,0,none⟩),.int .i64 (f : Int)] w (PS w pb s.size):=by
 have HN:=hid (next_none w h hs hi2 hc)
 clear h hc
 unfold PS at *
 go_enter Tryz.func221,Tryz.ntmps221
 go_wp2_with (go_at_call 220;refine HN.out.mono ?_;rintro e w1 ⟨rfl,hb1⟩)
 exact ⟨rfl,rfl,hb1⟩
theorem hex_ok {pb : Nat} {s : ByteArray} {i : Nat} {c : UInt8} {a : Nat} (w : World) (h : PW w pb s i w) (hs : s.size ≤ 200) (hc : s.data.toList[i]? = some c) (hx : hexV c = some a) (f : Nat) :
 Calls Tryz.prog 221 #[.pointer (some ⟨pb,0,none⟩),.int .i64 (f : Int)] w (HexIs pb s i a w):=by
 obtain ⟨hi,he⟩:=at_get hc
 have hbd : i + 1 ≤ 200:=by omega
 obtain ⟨hu,hno,hlt⟩:=(hexV_of c).1 a hx
 have ha:=(hexU_lt hu).1
 have HN:=hid (next_some w h hs hc)
 have hcv:=fun W => conv_any c.toNat c.toNat_lt W
 obtain ⟨d,hd,hd1,_⟩:=enc_u c.toNat c.toNat_lt
 obtain ⟨rfl,hd2⟩:=hd1 hlt
 have HP:=hid (fun W => parse_ok _ _ a hd hd2 hu W)
 generalize Utf8.encode ((c.toNat : Nat) : Int) = t at hcv HP
 have HE:=hid he
 have hn1 : ((i + 1 : Nat) : Int) - 1 = (i : Int):=by push_cast;omega
 have hlo : c.toNat < 256:=c.toNat_lt
 clear h hc hx hu hd hd1 hd2 he
 have hget : s[i]'hi = c:=HE.out
 unfold HexIs
 go_enter Tryz.func221,Tryz.ntmps221
 go_wp2_with (first
  | (go_at_call 220;refine HN.out.mono ?_;rintro e w1 ⟨rfl,hp1⟩)
  | (go_at_call 225;refine (HP.out w1).mono ?_;rintro e w2 ⟨rfl,hb2⟩;have hp2:=hp1.below hb2;have c0:=hp2.c0;have c1:=hp2.c1;have HP2:=hid hp2;clear hp1 hb2 hp2))
 go_quiet (fail)
 go_wp2
 all_goals go_ret
 all_goals exact ⟨rfl,HP2.out.below (below_drewN (Below.refl _ _) _)⟩
theorem hex_bad {pb : Nat} {s : ByteArray} {i : Nat} {c : UInt8} (w : World) (h : PW w pb s i w) (hs : s.size ≤ 200) (hc : s.data.toList[i]? = some c) (hx : hexV c = none) (f : Nat) (ev : Value) (hE : SynE ev w) (hEp : 3 ≠ pb) :
 Calls Tryz.prog 221 #[.pointer (some ⟨pb,0,none⟩),.int .i64 (f : Int)] w (PS w pb f):=by
 obtain ⟨hi,he⟩:=at_get hc
 have hbd : i + 1 ≤ 200:=by omega
 have HN:=hid (next_some w h hs hc)
 have hcv:=fun W => conv_any c.toNat c.toNat_lt W
 obtain ⟨d,hd,hd1,hd2⟩:=enc_u c.toNat c.toNat_lt
 have HEV : Hid (∀ w',w.grownBy w' (some pb) → SynE ev w'):=hid (fun w' hg => ⟨(World.grownBy.cell_far hg ⟨3,0,none⟩ (World.block_lt_of_cell? w _ hE.1) (fun e => hEp (Option.some.inj e))).trans hE.1,hE.2⟩)
 have hget : s[i]'hi = c:=he
 have hn1 : ((i + 1 : Nat) : Int) - 1 = (i : Int):=by push_cast;omega
 have hlo : c.toNat < 256:=c.toNat_lt
 by_cases hg : hexU d = none
 ·have HP:=hid (fun W (hE : SynE ev W) => parse_bad _ _ hd hg W ev hE)
  generalize Utf8.encode ((c.toNat : Nat) : Int) = t at hcv HP
  clear h hc hx hd hd1 hd2 he hg hE
  unfold PS stopV
  go_enter Tryz.func221,Tryz.ntmps221
  go_wp2_with (first
   | (go_at_call 220;refine HN.out.mono ?_;rintro e w1 ⟨rfl,hp1⟩)
   | (go_at_call 225;refine (HP.out w1 (HEV.out w1 hp1.grow)).mono ?_;rintro e w2 ⟨N,rfl,hb2⟩;have hp2:=hp1.below hb2;have c0:=hp2.c0;have c1:=hp2.c1;have HP2:=hid hp2;clear hp1 hb2 hp2))
  go_quiet (fail)
  go_wp2
  exact ⟨rfl,rfl,(HP2.out.below (below_drewN (Below.refl _ _) _)).grow⟩
 ·have hlt : c.toNat < 128:=by
   rcases Nat.lt_or_ge c.toNat 128 with h1 | h1
   ·exact h1
   ·exact absurd (hd2 h1) hg
  obtain ⟨rfl,hd3⟩:=hd1 hlt
  obtain ⟨h65,h70⟩ : 65 ≤ c.toNat ∧ c.toNat ≤ 70:=by
   rcases (hexV_of c).2 hx with h1 | h1
   ·exact absurd h1 hg
   ·exact h1
  obtain ⟨a,hu⟩:=Option.ne_none_iff_exists'.1 hg
  have ha:=(hexU_lt hu).1
  have HP:=hid (fun W => parse_ok _ _ a hd hd3 hu W)
  generalize Utf8.encode ((c.toNat : Nat) : Int) = t at hcv HP
  clear h hc hx hd hd1 hd2 hd3 he hg hE hu
  unfold PS stopV
  go_enter Tryz.func221,Tryz.ntmps221
  go_wp2_with (first
   | (go_at_call 220;refine HN.out.mono ?_;rintro e w1 ⟨rfl,hp1⟩)
   | (go_at_call 225;refine (HP.out w1).mono ?_;rintro e w2 ⟨rfl,hb2⟩;have hp2:=hp1.below hb2;have c0:=hp2.c0;have c1:=hp2.c1;have HP2:=hid hp2;clear hp1 hb2 hp2))
  go_quiet (fail)
  go_wp2
  exact ⟨rfl,rfl,(HP2.out.below (below_drewN (Below.refl _ _) _)).grow⟩
def RdB (r : PR Nat) (pb : Nat) (s : ByteArray) (w : World) (e : Ending) (w' : World) : Prop :=
 (∃ a j,r = .ok a j ∧ e = .returned (.int .u8 (a : Int)) ∧ PW w pb s j w') ∨ (∃ k,r = .bad k ∧ PS w pb k e w')
theorem RdB.ok {r : PR Nat} {pb : Nat} {s : ByteArray} {w w' : World} {e : Ending} {a j : Nat} (hr : r = .ok a j) (h : RdB r pb s w e w') : e = .returned (.int .u8 (a : Int)) ∧ PW w pb s j w':=by
 rcases h with ⟨a',j',h1,h2,h3⟩ | ⟨k,h1,_⟩
 ·rw [hr] at h1;cases h1;exact ⟨h2,h3⟩
 ·rw [hr] at h1;cases h1
theorem RdB.bad {r : PR Nat} {pb : Nat} {s : ByteArray} {w w' : World} {e : Ending} {k : Nat} (hr : r = .bad k) (h : RdB r pb s w e w') : PS w pb k e w':=by
 rcases h with ⟨a',j',h1,h2,h3⟩ | ⟨k',h1,h2⟩
 ·rw [hr] at h1;cases h1
 ·rw [hr] at h1;cases h1;exact h2
structure PIn (ev : Value) (pb : Nat) (s : ByteArray) (i : Nat) (w : World) : Prop where
 pw : PW w pb s i w
 sz : s.size ≤ 200
 le : i ≤ s.size
 ev : SynE ev w
 ne : 3 ≠ pb
theorem PIn.next {ev : Value} {pb : Nat} {s : ByteArray} {i j : Nat} {w w' : World} (h : PIn ev pb s i w) (h' : PW w pb s j w') (hj : j ≤ s.size) : PIn ev pb s j w' :=
 ⟨h'.here,h.sz,hj,⟨(World.grownBy.cell_far h'.grow ⟨3,0,none⟩ (World.block_lt_of_cell? w _ h.ev.1) (fun e => h.ne (Option.some.inj e))).trans h.ev.1,h.ev.2⟩,h.ne⟩
theorem PIn.below {ev : Value} {pb : Nat} {s : ByteArray} {i : Nat} {w w' : World} (h : PIn ev pb s i w) (hb : Below w.heap.size w w') : PIn ev pb s i w':=h.next (h.pw.below hb) h.le
theorem shl_or : ∀ (a b : Fin 16),bits .or .u8 ((a.val : Int) * 16) ((b.val : Nat) : Int) = ((a.val * 16 + b.val : Nat) : Int):=by decide +kernel
def ByteAt (pb : Nat) (s : ByteArray) (j a : Nat) (w : World) (e : Ending) (w' : World) : Prop:=e = .returned (.int .u8 (a : Int)) ∧ PW w pb s j w'
theorem Spec_c (n : Nat) (hn : n < 256) : ∃ q : Int,Hid (∀ W,Calls Tryz.prog 170 #[.string ⟨#[92,46,91,93,40,41,124,42,43,63,94,36,45]⟩,.int .u8 (n : Int)] W (fun e w' => e = .returned (.int .i64 q) ∧ W = w')) ∧ (0 ≤ q ↔ UInt8.ofNat n ∈ specialL):=by
 refine ⟨_,hid (fun W => (IndexB_c _ _ W).mono ?_),specIdx ⟨n,hn⟩⟩
 rintro e w' ⟨rfl,rfl⟩
 exact ⟨rfl,rfl⟩
theorem one_none {ev : Value} {pb : Nat} {s : ByteArray} {i : Nat} (w : World) (h : PIn ev pb s i w) (hc : s.data.toList[i]? = none) :
 Calls Tryz.prog 211 #[.pointer (some ⟨pb,0,none⟩)] w (PS w pb s.size):=by
 have c1:=h.pw.c1
 have HN1:=hid (next_none w h.pw h.sz h.le hc)
 clear h hc
 unfold PS at *
 go_enter Tryz.func211,Tryz.ntmps211
 go_wp2_with (first
  | (go_at_call 220;refine HN1.out.mono ?_;rintro e w1 ⟨rfl,hp1⟩))
 exact ⟨rfl,rfl,hp1⟩
theorem one_plain {ev : Value} {pb : Nat} {s : ByteArray} {i : Nat} (w : World) (h : PIn ev pb s i w) {c : UInt8} (hc : s.data.toList[i]? = some c) (h92 : c ≠ 92) (h1 : 32 ≤ c.toNat) (h2 : c.toNat ≤ 126) (h3 : c ∉ specialL) :
 Calls Tryz.prog 211 #[.pointer (some ⟨pb,0,none⟩)] w (ByteAt pb s (i + 1) c.toNat w):=by
 have c1:=h.pw.c1
 have HN1:=hid (next_some w h.pw h.sz hc)
 obtain ⟨q,HQ,hq⟩:=Spec_c c.toNat c.toNat_lt
 have hq2 : q < 0:=by
  have h4 : ¬ (0 ≤ q):=fun h => h3 (by simpa using hq.1 h)
  omega
 have hb : ((c.toNat : Int) != 92) = true:=by
  have : c.toNat ≠ 92:=fun e => h92 (UInt8.toNat_inj.1 e)
  simp;omega
 clear h hc h92 h3 hq
 generalize c.toNat = n at *
 unfold ByteAt
 go_enter Tryz.func211,Tryz.ntmps211
 go_wp2_with (first
  | (go_at_call 220;refine HN1.out.mono ?_;rintro e w1 ⟨rfl,hp1⟩)
  | (go_at_call 170;refine (HQ.out _).mono ?_;rintro e w' ⟨rfl,rfl⟩))
 go_ret
 exact ⟨rfl,hp1⟩
theorem one_low {ev : Value} {pb : Nat} {s : ByteArray} {i : Nat} (w : World) (h : PIn ev pb s i w) {c : UInt8} (hc : s.data.toList[i]? = some c) (h1 : c.toNat < 32) :
 Calls Tryz.prog 211 #[.pointer (some ⟨pb,0,none⟩)] w (PS w pb i):=by
 have c1:=h.pw.c1
 have HN1:=hid (next_some w h.pw h.sz hc)
 have hb : ((c.toNat : Int) != 92) = true:=by
  have : c.toNat ≠ 92:=by omega
  simp;omega
 have hl : (c.toNat : Int) < 32:=by omega
 clear h hc
 generalize c.toNat = n at *
 unfold PS stopV
 go_enter Tryz.func211,Tryz.ntmps211
 go_wp2_with (first
  | (go_at_call 220;refine HN1.out.mono ?_;rintro e w1 ⟨rfl,hp1⟩))
 exact ⟨rfl,rfl,hp1.grow⟩
theorem one_high {ev : Value} {pb : Nat} {s : ByteArray} {i : Nat} (w : World) (h : PIn ev pb s i w) {c : UInt8} (hc : s.data.toList[i]? = some c) (h1 : 126 < c.toNat) :
 Calls Tryz.prog 211 #[.pointer (some ⟨pb,0,none⟩)] w (PS w pb i):=by
 have c1:=h.pw.c1
 have HN1:=hid (next_some w h.pw h.sz hc)
 have hb : ((c.toNat : Int) != 92) = true:=by
  have : c.toNat ≠ 92:=by omega
  simp;omega
 have hl : (126 : Int) < (c.toNat : Int):=by omega
 clear h hc
 generalize c.toNat = n at *
 unfold PS stopV
 go_enter Tryz.func211,Tryz.ntmps211
 go_wp2_with (first
  | (go_at_call 220;refine HN1.out.mono ?_;rintro e w1 ⟨rfl,hp1⟩))
 exact ⟨rfl,rfl,hp1.grow⟩
theorem one_special {ev : Value} {pb : Nat} {s : ByteArray} {i : Nat} (w : World) (h : PIn ev pb s i w) {c : UInt8} (hc : s.data.toList[i]? = some c) (h92 : c ≠ 92) (h1 : 32 ≤ c.toNat) (h2 : c.toNat ≤ 126) (h3 : c ∈ specialL) :
 Calls Tryz.prog 211 #[.pointer (some ⟨pb,0,none⟩)] w (PS w pb i):=by
 have c1:=h.pw.c1
 have HN1:=hid (next_some w h.pw h.sz hc)
 obtain ⟨q,HQ,hq⟩:=Spec_c c.toNat c.toNat_lt
 have hq2 : 0 ≤ q:=hq.2 (by simpa using h3)
 have hb : ((c.toNat : Int) != 92) = true:=by
  have : c.toNat ≠ 92:=fun e => h92 (UInt8.toNat_inj.1 e)
  simp;omega
 clear h92 h3 hq
 clear h hc
 generalize c.toNat = n at *
 unfold PS stopV
 go_enter Tryz.func211,Tryz.ntmps211
 go_wp2_with (first
  | (go_at_call 220;refine HN1.out.mono ?_;rintro e w1 ⟨rfl,hp1⟩)
  | (go_at_call 170;refine (HQ.out _).mono ?_;rintro e w' ⟨rfl,rfl⟩))
 exact ⟨rfl,rfl,hp1.grow⟩
theorem PIn.at {ev : Value} {pb : Nat} {s : ByteArray} {i j : Nat} {w w' : World} (h : PIn ev pb s i w) (h' : PW w pb s j w') : PW w' pb s j w':=h'.here
theorem one_b_none {ev : Value} {pb : Nat} {s : ByteArray} {i : Nat} (w : World) (h : PIn ev pb s i w) (hc : s.data.toList[i]? = some 92) (hd : s.data.toList[i + 1]? = none) :
 Calls Tryz.prog 211 #[.pointer (some ⟨pb,0,none⟩)] w (PS w pb s.size):=by
 have c1:=h.pw.c1
 obtain ⟨hi,_⟩:=at_get hc
 have HN1 : Hid (Calls Tryz.prog 220 #[.pointer (some ⟨pb,0,none⟩)] w (NextIs8 pb s i 92 w)):=hid (next_some w h.pw h.sz hc)
 have HN2:=hid (fun w1 (h1 : PW w pb s (i + 1) w1) => next_none w1 h1.here h.sz (by omega) hd)
 clear h hc hd
 unfold PS at *
 go_enter Tryz.func211,Tryz.ntmps211
 go_wp2_with (first
  | (go_at_call 220;refine HN1.out.mono ?_;rintro e w1 ⟨rfl,hp1⟩)
  | (go_at_call 220;refine (HN2.out w1 hp1).mono ?_;rintro e w2 ⟨rfl,hp2⟩))
 exact ⟨rfl,rfl,hp1.grow.trans hp2⟩
theorem one_b_special {ev : Value} {pb : Nat} {s : ByteArray} {i : Nat} (w : World) (h : PIn ev pb s i w) (hc : s.data.toList[i]? = some 92) {d : UInt8} (hd : s.data.toList[i + 1]? = some d) (hx : d ≠ 120) (h3 : d ∈ specialL) :
 Calls Tryz.prog 211 #[.pointer (some ⟨pb,0,none⟩)] w (ByteAt pb s (i + 2) d.toNat w):=by
 have c1:=h.pw.c1
 obtain ⟨hi,_⟩:=at_get hc
 have HN1 : Hid (Calls Tryz.prog 220 #[.pointer (some ⟨pb,0,none⟩)] w (NextIs8 pb s i 92 w)):=hid (next_some w h.pw h.sz hc)
 have HN2:=hid (fun w1 (h1 : PW w pb s (i + 1) w1) => next_some w1 h1.here h.sz hd)
 obtain ⟨q,HQ,hq⟩:=Spec_c d.toNat d.toNat_lt
 have hq2 : 0 ≤ q:=hq.2 (by simpa using h3)
 have hb : ((d.toNat : Int) == 120) = false:=by
  have : d.toNat ≠ 120:=fun e => hx (UInt8.toNat_inj.1 e)
  simp;omega
 clear h hc hd hx h3 hq
 generalize d.toNat = n at *
 unfold ByteAt
 go_enter Tryz.func211,Tryz.ntmps211
 go_wp2_with (first
  | (go_at_call 220;refine HN1.out.mono ?_;rintro e w1 ⟨rfl,hp1⟩)
  | (go_at_call 220;refine (HN2.out w1 hp1).mono ?_;rintro e w2 ⟨rfl,hp2⟩)
  | (go_at_call 170;refine (HQ.out _).mono ?_;rintro e w' ⟨rfl,rfl⟩))
 go_ret
 exact ⟨rfl,hp1.trans hp2⟩
theorem one_b_bad {ev : Value} {pb : Nat} {s : ByteArray} {i : Nat} (w : World) (h : PIn ev pb s i w) (hc : s.data.toList[i]? = some 92) {d : UInt8} (hd : s.data.toList[i + 1]? = some d) (hx : d ≠ 120) (h3 : d ∉ specialL) :
 Calls Tryz.prog 211 #[.pointer (some ⟨pb,0,none⟩)] w (PS w pb i):=by
 have c1:=h.pw.c1
 obtain ⟨hi,_⟩:=at_get hc
 have HN1 : Hid (Calls Tryz.prog 220 #[.pointer (some ⟨pb,0,none⟩)] w (NextIs8 pb s i 92 w)):=hid (next_some w h.pw h.sz hc)
 have HN2:=hid (fun w1 (h1 : PW w pb s (i + 1) w1) => next_some w1 h1.here h.sz hd)
 obtain ⟨q,HQ,hq⟩:=Spec_c d.toNat d.toNat_lt
 have hq2 : q < 0:=by
  have h4 : ¬ (0 ≤ q):=fun h => h3 (by simpa using hq.1 h)
  omega
 have hb : ((d.toNat : Int) == 120) = false:=by
  have : d.toNat ≠ 120:=fun e => hx (UInt8.toNat_inj.1 e)
  simp;omega
 clear h hc hd hx h3 hq
 generalize d.toNat = n at *
 unfold PS stopV
 go_enter Tryz.func211,Tryz.ntmps211
 go_wp2_with (first
  | (go_at_call 220;refine HN1.out.mono ?_;rintro e w1 ⟨rfl,hp1⟩)
  | (go_at_call 220;refine (HN2.out w1 hp1).mono ?_;rintro e w2 ⟨rfl,hp2⟩)
  | (go_at_call 170;refine (HQ.out _).mono ?_;rintro e w' ⟨rfl,rfl⟩))
 exact ⟨rfl,rfl,(hp1.trans hp2).grow⟩
theorem one_x_bad1 {ev : Value} {pb : Nat} {s : ByteArray} {i : Nat} (w : World) (h : PIn ev pb s i w) (hc : s.data.toList[i]? = some 92) (hd : s.data.toList[i + 1]? = some 120) {k : Nat} (hx1 : ∀ w2,PW w pb s (i + 2) w2 → Calls Tryz.prog 221 #[.pointer (some ⟨pb,0,none⟩),.int .i64 (i : Int)] w2 (PS w2 pb k)) :
 Calls Tryz.prog 211 #[.pointer (some ⟨pb,0,none⟩)] w (PS w pb k):=by
 have c1:=h.pw.c1
 obtain ⟨hi,_⟩:=at_get hc
 have HN1 : Hid (Calls Tryz.prog 220 #[.pointer (some ⟨pb,0,none⟩)] w (NextIs8 pb s i 92 w)):=hid (next_some w h.pw h.sz hc)
 have HN2 : Hid (∀ w1,PW w pb s (i + 1) w1 → Calls Tryz.prog 220 #[.pointer (some ⟨pb,0,none⟩)] w1 (NextIs8 pb s (i + 1) 120 w1)):=hid (fun w1 h1 => next_some w1 h1.here h.sz hd)
 have HX1:=hid hx1
 clear h hc hd hx1
 unfold PS at *
 go_enter Tryz.func211,Tryz.ntmps211
 go_wp2_with (first
  | (go_at_call 220;refine HN1.out.mono ?_;rintro e w1 ⟨rfl,hp1⟩)
  | (go_at_call 220;refine (HN2.out w1 hp1).mono ?_;rintro e w2 ⟨rfl,hp2⟩)
  | (go_at_call 221;refine (HX1.out w2 (hp1.trans hp2)).mono ?_;rintro e w3 ⟨rfl,hp3⟩))
 exact ⟨rfl,rfl,(hp1.trans hp2).grow.trans hp3⟩
theorem one_x_bad2 {ev : Value} {pb : Nat} {s : ByteArray} {i : Nat} (w : World) (h : PIn ev pb s i w) (hc : s.data.toList[i]? = some 92) (hd : s.data.toList[i + 1]? = some 120) {k : Nat} {a : Nat} (hx1 : ∀ w2,PW w pb s (i + 2) w2 → Calls Tryz.prog 221 #[.pointer (some ⟨pb,0,none⟩),.int .i64 (i : Int)] w2 (HexIs pb s (i + 2) a w2)) (hx2 : ∀ w3,PW w pb s (i + 3) w3 → Calls Tryz.prog 221 #[.pointer (some ⟨pb,0,none⟩),.int .i64 (i : Int)] w3 (PS w3 pb k)) :
 Calls Tryz.prog 211 #[.pointer (some ⟨pb,0,none⟩)] w (PS w pb k):=by
 have c1:=h.pw.c1
 obtain ⟨hi,_⟩:=at_get hc
 have HN1 : Hid (Calls Tryz.prog 220 #[.pointer (some ⟨pb,0,none⟩)] w (NextIs8 pb s i 92 w)):=hid (next_some w h.pw h.sz hc)
 have HN2 : Hid (∀ w1,PW w pb s (i + 1) w1 → Calls Tryz.prog 220 #[.pointer (some ⟨pb,0,none⟩)] w1 (NextIs8 pb s (i + 1) 120 w1)):=hid (fun w1 h1 => next_some w1 h1.here h.sz hd)
 have HX1:=hid hx1
 have HX2:=hid hx2
 clear h hc hd hx1 hx2
 unfold PS at *
 go_enter Tryz.func211,Tryz.ntmps211
 go_wp2_with (first
  | (go_at_call 220;refine HN1.out.mono ?_;rintro e w1 ⟨rfl,hp1⟩)
  | (go_at_call 220;refine (HN2.out w1 hp1).mono ?_;rintro e w2 ⟨rfl,hp2⟩)
  | (go_at_call 221;refine (HX1.out w2 (hp1.trans hp2)).mono ?_;rintro e w3 ⟨rfl,hp3⟩)
  | (go_at_call 221;refine (HX2.out w3 ((hp1.trans hp2).trans hp3)).mono ?_;rintro e w4 ⟨rfl,hp4⟩))
 exact ⟨rfl,rfl,((hp1.trans hp2).trans hp3).grow.trans hp4⟩
theorem one_x_ok {ev : Value} {pb : Nat} {s : ByteArray} {i : Nat} (w : World) (h : PIn ev pb s i w) (hc : s.data.toList[i]? = some 92) (hd : s.data.toList[i + 1]? = some 120) {b : Nat} {a : Nat} (hx1 : ∀ w2,PW w pb s (i + 2) w2 → Calls Tryz.prog 221 #[.pointer (some ⟨pb,0,none⟩),.int .i64 (i : Int)] w2 (HexIs pb s (i + 2) a w2)) (hx2 : ∀ w3,PW w pb s (i + 3) w3 → Calls Tryz.prog 221 #[.pointer (some ⟨pb,0,none⟩),.int .i64 (i : Int)] w3 (HexIs pb s (i + 3) b w3)) (ha : a < 16) (hb : b < 16) :
 Calls Tryz.prog 211 #[.pointer (some ⟨pb,0,none⟩)] w (ByteAt pb s (i + 4) (a * 16 + b) w):=by
 have c1:=h.pw.c1
 obtain ⟨hi,_⟩:=at_get hc
 have HN1 : Hid (Calls Tryz.prog 220 #[.pointer (some ⟨pb,0,none⟩)] w (NextIs8 pb s i 92 w)):=hid (next_some w h.pw h.sz hc)
 have HN2 : Hid (∀ w1,PW w pb s (i + 1) w1 → Calls Tryz.prog 220 #[.pointer (some ⟨pb,0,none⟩)] w1 (NextIs8 pb s (i + 1) 120 w1)):=hid (fun w1 h1 => next_some w1 h1.here h.sz hd)
 have HX1:=hid hx1
 have HX2:=hid hx2
 have hsh:=shl_or ⟨a,ha⟩ ⟨b,hb⟩
 clear h hc hd hx1 hx2
 unfold ByteAt
 go_enter Tryz.func211,Tryz.ntmps211
 go_wp2_with (first
  | (go_at_call 220;refine HN1.out.mono ?_;rintro e w1 ⟨rfl,hp1⟩)
  | (go_at_call 220;refine (HN2.out w1 hp1).mono ?_;rintro e w2 ⟨rfl,hp2⟩)
  | (go_at_call 221;refine (HX1.out w2 (hp1.trans hp2)).mono ?_;rintro e w3 ⟨rfl,hp3⟩)
  | (go_at_call 221;refine (HX2.out w3 ((hp1.trans hp2).trans hp3)).mono ?_;rintro e w4 ⟨rfl,hp4⟩))
 go_ret
 exact ⟨by rw [Int.natCast_add,Int.natCast_mul];rfl,((hp1.trans hp2).trans hp3).trans hp4⟩
theorem one_c {ev : Value} {pb : Nat} {s : ByteArray} {i : Nat} (w : World) (h : PIn ev pb s i w) :
 Calls Tryz.prog 211 #[.pointer (some ⟨pb,0,none⟩)] w (RdB (oneS s.data.toList i) pb s w):=by
 have good : ∀ a j,oneS s.data.toList i = .ok a j → Calls Tryz.prog 211 #[.pointer (some ⟨pb,0,none⟩)] w (ByteAt pb s j a w) → Calls Tryz.prog 211 #[.pointer (some ⟨pb,0,none⟩)] w (RdB (oneS s.data.toList i) pb s w):=fun a j h1 h2 => h2.mono fun e w' hh => .inl ⟨a,j,h1,hh.1,hh.2⟩
 have bad : ∀ k,oneS s.data.toList i = .bad k → Calls Tryz.prog 211 #[.pointer (some ⟨pb,0,none⟩)] w (PS w pb k) → Calls Tryz.prog 211 #[.pointer (some ⟨pb,0,none⟩)] w (RdB (oneS s.data.toList i) pb s w):=fun k h1 h2 => h2.mono fun e w' hh => .inr ⟨k,h1,hh⟩
 have hend : s.data.toList.length = s.size:=at_end s
 cases hc : s.data.toList[i]? with
 | none => exact bad _ (by unfold oneS;rw [hc,hend]) (one_none w h hc)
 | some c =>
   by_cases h92 : c = 92
   ·subst h92
    cases hd : s.data.toList[i + 1]? with
    | none => exact bad _ (by unfold oneS;rw [hc];simp only [if_true];rw [hd,hend]) (one_b_none w h hc hd)
    | some d =>
      by_cases hx : d = 120
      ·subst hx
       have hone : oneS s.data.toList i = hexS s.data.toList i:=by unfold oneS;rw [hc];simp only [if_true];rw [hd];simp only [if_true]
       have hi3:=at_get hd
       have hi3' : i + 1 < s.size:=hi3.1
       cases h2 : s.data.toList[i + 2]? with
       | none => exact bad _ (by rw [hone];unfold hexS;rw [h2,hend]) (one_x_bad1 w h hc hd fun w2 hw => hex_none w2 hw.here h.sz (by omega) h2 i)
       | some x =>
         obtain ⟨hi2,_⟩:=at_get h2
         cases hv : hexV x with
         | none => exact bad i (by rw [hone];unfold hexS;rw [h2];simp only [hv]) (one_x_bad1 w h hc hd fun w2 hw => hex_bad w2 hw.here h.sz h2 hv i ev (h.next hw (by omega)).ev h.ne)
         | some a =>
           cases h3 : s.data.toList[i + 3]? with
           | none => exact bad _ (by rw [hone];unfold hexS;rw [h2];simp only [hv];rw [h3,hend]) (one_x_bad2 w h hc hd (fun w2 hw => hex_ok w2 hw.here h.sz h2 hv i) fun w3 hw => hex_none w3 hw.here h.sz (by omega) h3 i)
           | some y =>
             obtain ⟨hi3,_⟩:=at_get h3
             cases hv2 : hexV y with
             | none => exact bad i (by rw [hone];unfold hexS;rw [h2];simp only [hv];rw [h3];simp only [hv2]) (one_x_bad2 w h hc hd (fun w2 hw => hex_ok w2 hw.here h.sz h2 hv i) fun w3 hw => hex_bad w3 hw.here h.sz h3 hv2 i ev (h.next hw (by omega)).ev h.ne)
             | some b => exact good _ _ (by rw [hone];unfold hexS;rw [h2];simp only [hv];rw [h3];simp only [hv2]) (one_x_ok w h hc hd (fun w2 hw => hex_ok w2 hw.here h.sz h2 hv i) (fun w3 hw => hex_ok w3 hw.here h.sz h3 hv2 i) (hexV_lt hv) (hexV_lt hv2))
      ·by_cases h3 : d ∈ specialL
       ·exact good _ _ (by unfold oneS;rw [hc];simp only [if_true];rw [hd];simp only [if_neg hx,if_pos h3]) (one_b_special w h hc hd hx h3)
       ·exact bad _ (by unfold oneS;rw [hc];simp only [if_true];rw [hd];simp only [if_neg hx,if_neg h3]) (one_b_bad w h hc hd hx h3)
   ·by_cases h1 : c.toNat < 32
    ·exact bad _ (by unfold oneS;rw [hc];simp only [if_neg h92,if_pos (show c.toNat < 32 ∨ 126 < c.toNat ∨ c ∈ specialL from .inl h1)]) (one_low w h hc h1)
    ·by_cases h2 : 126 < c.toNat
     ·exact bad _ (by unfold oneS;rw [hc];simp only [if_neg h92,if_pos (show c.toNat < 32 ∨ 126 < c.toNat ∨ c ∈ specialL from .inr (.inl h2))]) (one_high w h hc h2)
     ·by_cases h3 : c ∈ specialL
      ·exact bad _ (by unfold oneS;rw [hc];simp only [if_neg h92,if_pos (show c.toNat < 32 ∨ 126 < c.toNat ∨ c ∈ specialL from .inr (.inr h3))]) (one_special w h hc h92 (by omega) (by omega) h3)
      ·exact good _ _ (by unfold oneS;rw [hc];simp only [if_neg h92];rw [if_neg (by rintro (q | q | q);exact h1 q;exact h2 q;exact h3 q)]) (one_plain w h hc h92 (by omega) (by omega) h3)
end Go.Proofs.YthhcpbfgoofppaaGreatDoor
