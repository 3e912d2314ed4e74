/-
  Proved: winnowfanlaw3.RunBegins returns true for every text and count, and changes nothing that was there.
-/
import Derived.Test.YthhcpbfgoofppaaGreatDoorGLd
import Derived.Test.YthhcpbfgoofppaaGreatDoorGRz
import Derived.Test.YthhcpbfgoofppaaGreatDoorTie
import Derived.Test.YthhcpbfgoofppaaGreatDoorCards
set_option linter.unusedVariables false
set_option linter.unusedSimpArgs false
set_option maxRecDepth 100000
set_option maxHeartbeats 8000000
open Go.Lib (hid)
namespace Go.Proofs.YthhcpbfgoofppaaGreatDoor.runBegins
open Go.RowKit Wf
open law (own LawIs)
open setW (LibE Run_c)
set_option linter.unusedVariables false
theorem walk (s : ByteArray) (n : Int) (w : World) (hs : s.size ≤ maxLen) (hwf : (Lit.int .i64 n).wf = true) (hE : LibE w.heap.size w) :
 Calls Tryz.prog 4 #[.string s,.int .i64 n] w (LawIs w):=by
 have hn:=wf_i64_bd hwf
 clear hwf
 have hs' : s.size ≤ 9223372036854775807:=by unfold maxLen at hs;omega
 have hsl : s.data.toList.length = s.size:=by simp
 have HF : Hid (Calls Tryz.prog 5 #[.string ⟨#[97,100,100,32,97,43,10,115,99,97,110,32,98,97,97,10,112,117,116,32,49,32,98,97,97,10,102,108,121]⟩] w (fun e w' => e = .returned (.string ⟨#[49,10,49,58,49,45,51,10,98,95,10,98,97,100,10]⟩) ∧ Below w.heap.size w w')):=hid ((Run_c _ (by decide) w hE).mono (by
  rintro e w' ⟨t,rfl,ht,hb⟩
  rw [show (⟨#[97,100,100,32,97,43,10,115,99,97,110,32,98,97,97,10,112,117,116,32,49,32,98,97,97,10,102,108,121]⟩ : ByteArray).data.toList = [97,100,100,32,97,43,10,115,99,97,110,32,98,97,97,10,112,117,116,32,49,32,98,97,97,10,102,108,121] from rfl,run_fact] at ht
  rw [setW.ba_eq ht]
  exact ⟨rfl,hb⟩))
 have HRUN : Hid (∀ (W : World) (x : ByteArray),x.size ≤ s.size → Below w.heap.size w W → Calls Tryz.prog 5 #[.string x] W (fun e w' => ∃ t : ByteArray,e = .returned (.string t) ∧ t.data.toList = runS x.data.toList ∧ Below w.heap.size W w')):=hid fun W x hx hW => by
  obtain ⟨w0,ev,rv,h0,h1,h2,h3,h4,h5⟩:=hE
  have hb : Below w0.heap.size w0 W:=by rw [h0];exact h1.trans hW
  refine (Run_c x (by omega) W (LibE.of (h2.below hb) (h3.below hb) (h4.below hb) (h5.below hb))).mono ?_
  rintro e w' ⟨t,he,ht,hbb⟩
  exact ⟨t,he,ht,hbb.mono hW.size⟩
 unfold LawIs
 by_cases h3 : 3000 < s.size
 ·have d1 : decide ((3000 : Int) < (s.size : Int)) = true:=decide_eq_true (by omega)
  clear hsl hE h3
  go_enter Tryz.func4,Tryz.ntmps4
  go_wp2_with fail
  refine HF.out.mono ?_
  rintro e w1 ⟨rfl,hb1⟩
  have HB:=hid hb1
  clear hb1
  go_wp2_with fail
  go_ret
  exact ⟨rfl,HB.out⟩
 have d1 : decide ((3000 : Int) < (s.size : Int)) = false:=decide_eq_false (by omega)
 by_cases h0 : n < 0
 ·have d2 : decide (n < 0) = true:=decide_eq_true h0
  clear hsl hE h3 h0
  go_enter Tryz.func4,Tryz.ntmps4
  go_wp2_with fail
  refine HF.out.mono ?_
  rintro e w1 ⟨rfl,hb1⟩
  have HB:=hid hb1
  clear hb1
  go_wp2_with fail
  go_ret
  exact ⟨rfl,HB.out⟩
 have d2 : decide (n < 0) = false:=decide_eq_false h0
 obtain ⟨n0,rfl⟩:=Int.eq_ofNat_of_zero_le (Int.not_lt.1 h0)
 have hs3 : s.size ≤ 3000:=by omega
 have hn0 : n0 ≤ 9223372036854775807:=by omega
 have HSL:=hid hsl
 clear hsl hE h3 h0 hn
 go_enter Tryz.func4,Tryz.ntmps4
 go_wp2_with fail
 refine HF.out.mono ?_
 rintro e w1 ⟨rfl,hb1⟩
 have HB1:=hid hb1
 clear hb1 HF
 go_wp2_with fail
 go_loopw [1,6] (fun v1 v6 wr => ∃ (k a : Nat),k ≤ n0 ∧ a ≤ s.size ∧ v1 = .int .i64 (k : Int) ∧ v6 = .int .i64 (a : Int) ∧ Hid (k = 0 → a = 0 ∨ ∃ j,a = j + 1 ∧ s.data.toList[j]? = some 10) ∧ wr = w1) (fun _ i _ => s.size - (intOf i).toNat)
 case atStart => exact ⟨n0,0,Nat.le_refl _,by omega,rfl,rfl,hid fun _ => .inl rfl,by first | rfl | trivial⟩
 case round =>
  obtain ⟨k,a,hk,ha,rfl,rfl,HK,rfl⟩:=hrel
  by_cases hk0 : 0 < k
  ·have e1 : decide ((0 : Int) < (k : Int)) = true:=decide_eq_true (by omega)
   by_cases hlt : a < s.size
   ·have e2 : decide ((a : Int) < (s.size : Int)) = true:=decide_eq_true (by omega)
    have i0 : (0 : Int) ≤ (a : Int):=by omega
    have hc:=get_atR hlt
    by_cases h10 : (s[a]'hlt).toNat = 10
    ·have f1 : (((s[a]'hlt).toNat : Int) == 10) = true:=by rw [h10];rfl
     have HC : Hid (s.data.toList[a]? = some 10):=hid (by rw [hc];congr 1;exact UInt8.toNat_inj.1 h10)
     clear hc h10
     go_wp2_with fail
     go_roundw
     case rel => exact ⟨k - 1,a + 1,by omega,by omega,by go_num,by go_num,hid fun _ => .inr ⟨a,rfl,HC.out⟩,trivial⟩
     case measure => simp [intOf];omega
    ·have f1 : (((s[a]'hlt).toNat : Int) == 10) = false:=by rw [beq_eq_false_iff_ne];omega
     clear hc h10
     go_wp2_with fail
     go_roundw
     case rel => exact ⟨k,a + 1,by omega,by omega,rfl,by go_num,hid fun h => absurd h (by omega),trivial⟩
     case measure => simp [intOf];omega
   ·obtain rfl : a = s.size:=by omega
    have e2 : decide ((s.size : Int) < (s.size : Int)) = false:=decide_eq_false (by omega)
    have i0 : (0 : Int) ≤ (s.size : Int):=by omega
    go_wp2_with fail
    refine (HRUN.out _ s (Nat.le_refl _) HB1.out).mono ?_
    rintro e w2 ⟨t,rfl,ht,hb2⟩
    have HT:=hid ht
    have HB2:=hid (HB1.out.trans hb2)
    clear ht hb2
    go_wp2_with fail
    refine (HRUN.out _ s (Nat.le_refl _) HB2.out).mono ?_
    rintro e w3 ⟨u,rfl,hu,hb3⟩
    have HB3:=hid (HB2.out.trans hb3)
    have g1 : (t.toList == u.toList) = true:=by
     rw [← HT.out] at hu
     have : u = t:=ByteArray.ext (Array.toList_inj.1 hu)
     rw [this]
     exact beq_self_eq_true _
    clear hu hb3
    go_wp2_with fail
    go_ret
    exact ⟨by first | rfl | (simp only [g1]),HB3.out⟩
  ·obtain rfl : k = 0:=by omega
   have e1 : decide ((0 : Int) < ((0 : Nat) : Int)) = false:=rfl
   have i0 : (0 : Int) ≤ (a : Int):=by omega
   have i1 : (a : Int) ≤ (s.size : Int):=by omega
   obtain ⟨q,hq⟩:=run_begins (s:=s.data.toList) (k:=a) (by rw [HSL.out];exact hs3) (HK.out rfl)
   have hx : (s.extract 0 a).data.toList = s.data.toList.take a:=by rw [ext_list];simp
   have HQ : Hid (runS s.data.toList = runS (s.extract 0 a).data.toList ++ q):=hid (by rw [hx];exact hq)
   have hxz : (s.extract 0 a).size ≤ s.size:=extract_le _ _ _
   clear hq hx
   go_wp2_with fail
   refine (HRUN.out _ s (Nat.le_refl _) HB1.out).mono ?_
   rintro e w2 ⟨t,rfl,ht,hb2⟩
   have HT:=hid ht
   have HB2:=hid (HB1.out.trans hb2)
   clear ht hb2
   go_wp2_with fail
   refine (HRUN.out _ (s.extract 0 a) hxz HB2.out).mono ?_
   rintro e w3 ⟨u,rfl,hu,hb3⟩
   have HB3:=hid (HB2.out.trans hb3)
   have htu : t.data.toList = u.data.toList ++ q:=by rw [HT.out,hu];exact HQ.out
   have htl : t.data.toList.length = t.size:=by simp
   have hul : u.data.toList.length = u.size:=by simp
   have hle : u.size ≤ t.size:=by
    rw [← htl,← hul,htu]
    simp
   have hext : t.extract 0 u.size = u:=ByteArray.ext (Array.toList_inj.1 (by
    show (t.extract 0 u.size).data.toList = u.data.toList
    rw [ext_list,htu,← hul]
    simp))
   have g1 : ((t.extract 0 u.size).toList == u.toList) = true:=by rw [hext];exact beq_self_eq_true _
   have g2 : decide ((u.size : Int) ≤ (t.size : Int)) = true:=decide_eq_true (by omega)
   have g3 : (0 : Int) ≤ (u.size : Int):=by omega
   have g4 : (u.size : Int) ≤ (t.size : Int):=by omega
   clear hu hb3 htu htl hul hext
   go_wp2_with fail
   go_ret
   exact ⟨by first | rfl | (simp only [g1]),HB3.out⟩
end Go.Proofs.YthhcpbfgoofppaaGreatDoor.runBegins
namespace Go.Proofs.YthhcpbfgoofppaaGreatDoor.runBegins
open Go.ChangeShapes Go.WideShapes Go.ChangeAt Go.RowKit Wf
open Go.ChangeMaps (open_string shut_string)
open law (own LawIs)
open lawR (laidL laidWorld laidWorld_met lib_of_laid)
set_option linter.unusedVariables false
theorem lifted (os : Os) (started : os.Started) (H : Type) (enc : TypeId × Value → H) :
 ReturnsInHanded {} Tryz.checked os 4 .any (fun w args => (Rows.runBeginsSpec.pre enc Tryz.prog Tryz.f4 [] false w args ∧ laidMetH Tryz.prog laidL w) ∧ sizedMet enc Tryz.prog Tryz.f4 (OpenSpec.ofChange Rows.runBeginsSpec) false w args)
  (Rows.runBeginsSpec.post enc Tryz.prog Tryz.f4 false true false false):=by
 refine returnsInHanded_of_change_and (C:=Tryz.checked) (X:=fun w _ => laidMetH Tryz.prog laidL w) (fun _ _ _ hh h => h.of_heap hh) own started (by kernel_rfl) Tryz.func4
  (ChangeSpec.witness_at (enc:=enc) (C:=Tryz.checked) (os:=os) (X:=fun w _ => laidMetH Tryz.prog laidL w) false (laidWorld os) #[.string ByteArray.empty,.int .i64 0] 8 rfl (by kernel_rfl) (by kernel_rfl) (by kernel_rfl) (by kernel_rfl) (by kernel_rfl) (laidWorld_met os _)) ?_
 intro W base args ds gs before hval0 hW hcnd _ hL _
 have hval : ∀ (j : Nat) t v,Tryz.f4.params[j]? = some t → args[j]? = some v → Value.okWide Tryz.prog W .any base t v:=hval0
 have hW':=hW
 obtain ⟨p,q,hA0,hV,rfl,hfz,hnd⟩:=hW
 have hA : DataW.TrodAll enc Tryz.prog W 0 (fun _ => true) true Tryz.f4.params.toList args.toList ds p:=hA0
 rw [Tryz.params4] at hA hval
 obtain ⟨v0,vs0,d0,ds0,p0,q0,hargs,rfl,rfl,h0,r0⟩:=trodAll_cons hA
 obtain ⟨v1,vs1,d1,ds1,p1,q1,rfl,rfl,rfl,h1,r1⟩:=trodAll_cons r0
 obtain ⟨rfl,rfl,rfl⟩:=trodAll_nil r1
 obtain rfl : args = #[v0,v1]:=by cases args;simp_all
 obtain ⟨rfl,rfl⟩:=trodVars_none hV
 have hE:=lib_of_laid hL
 have k0:=h0
 have lt0 : ∀ x ∈ p0,x.block < W.heap.size:=by obtain ⟨m,hm⟩:=k0;exact DataW.trod_lt m _ _ _ hm
 obtain ⟨s0,rfl,rfl,rfl,ws0⟩:=open_string Tryz.underlying9 (hval 0 9 v0 rfl rfl) h0
 have k1:=h1
 have lt1 : ∀ x ∈ p1,x.block < W.heap.size:=by obtain ⟨m,hm⟩:=k1;exact DataW.trod_lt m _ _ _ hm
 obtain ⟨x1,rfl,rfl,rfl,wx1⟩:=open_int Tryz.underlying3 (hval 1 3 v1 rfl rfl) h1
 clear hA0 hval0
 refine (walk s0 x1 W ws0 wx1 hE).mono fun e W' ⟨he,bel⟩ => ?_
 subst he
 exact ⟨_,rfl,_,_,_,[],_,[],hW',trodAll_mk1 (shut_bool Tryz.underlying4 _),(trodAll_cons_mk (shut_string Tryz.underlying9 ws0) (trodAll_cons_mk (shut_int Tryz.underlying3 wx1) trodAll_mk0)),rfl,bel.frame _,fun h => by cases h⟩
theorem over : Rows.runBeginsRow.holds Tryz.pinned (OpenSpec.ofChange Rows.runBeginsSpec) :=
 OpenClaim.holds_of_wide 4 Tryz.f4 rfl rfl rfl rfl rfl rfl rfl ⟨rfl,rfl,rfl,rfl,rfl⟩ rfl rfl rfl rfl rfl (by kernel_rfl) Tryz.func4 (by kernel_rfl)
  (of_decide_eq_true (by kernel_rfl)) (by unfold Func.isWrapper;first | (rw [if_pos (by decide +kernel)];kernel_rfl) | (rw [if_neg (by decide +kernel)];exact ⟨rfl,rfl⟩))
  (fun os started H enc _ => lifted os started H enc)
theorem proved : Rows.RunBeginsCardSaid :=
 Claim7.holds_tied_plain_at .later [] [.data, .data, .data, .handle, .sentinel, .sentinel] true (true, "7f1e144ab7e1dbf0d32ee5c97695448cdbebd3bb782fca2090200e67b8b41330") true
  over (fun _ h => by cases h) (by kernel_rfl) (fun _ h => by cases h) runBegins_row_tie rfl ⟨rfl,rfl⟩ (by kernel_rfl) rfl
  (fun f fn hf hfn => by
    obtain rfl : f = 4 := Option.some.inj ((show Tryz.prog.funcNamed "winnowfan/winnowfanlaw3.RunBegins" = some 4 by kernel_rfl).symm.trans hf) |>.symm
    obtain rfl : fn = Tryz.f4:=(Option.some.inj (Tryz.func4.symm.trans hfn)).symm
    exact ⟨by kernel_rfl,fun j t ht => by
     rw [Tryz.params4] at ht
     match j,ht with
     | 0,ht =>
       have e : t = 9:=by simpa using ht.symm
       subst e
       exact (show Tryz.prog.wantsStandIn 9 = false by kernel_rfl)
     | 1,ht =>
       have e : t = 3:=by simpa using ht.symm
       subst e
       exact (show Tryz.prog.wantsStandIn 3 = false by kernel_rfl)
     | j + 2,ht => simp at ht⟩)
  (by kernel_rfl)
end Go.Proofs.YthhcpbfgoofppaaGreatDoor.runBegins
