/-
  SetF, SetForm, SetG, SetH.
-/
import Derived.Test.YthhcpbfgoofppaaGreatDoorGAll
import Derived.Test.YthhcpbfgoofppaaGreatDoorGEach
import Derived.Test.YthhcpbfgoofppaaGreatDoorGFind
import Derived.Test.YthhcpbfgoofppaaGreatDoorGSetC
import Derived.Test.YthhcpbfgoofppaaGreatDoorStrs
import Derived.Maps.AppendAt
set_option linter.unusedVariables false
set_option linter.unusedSimpArgs false
set_option maxRecDepth 100000
set_option maxHeartbeats 8000000
open Go.Lib (hid)
namespace Go.Proofs.YthhcpbfgoofppaaGreatDoor.setW
open Go.RowKit Wf
set_option linter.unusedVariables false
theorem info_item : (Tryz.prog.info? 53).map (fun i => (i.zero,i.size,i.bytes)) = some (some (.agg #[.int .i64 0,.string ⟨#[]⟩]),2,24):=by kernel_rfl
def itCells (x : Mb) : List Value:=[.int .i64 (x.id : Int),.string x.text]
theorem it_len (l : List Mb) : (l.flatMap itCells).length = l.length * 2:=by
 induction l with
 | nil => rfl
 | cons q r ih => simp [itCells] at ih ⊢;omega
theorem it_snoc (l : List Mr) (k : Nat) (q : Mr) (h : l[k]? = some q) : ((l.take (k + 1)).map (·.1)).flatMap itCells = ((l.take k).map (·.1)).flatMap itCells ++ itCells q.1:=by
 rw [take_snoc h,List.map_append,List.flatMap_append]
 simp
def ItemsAre (m : SS) (w : World) (e : Ending) (w' : World) : Prop :=
 ∃ (v : Value),e = .returned v ∧ w'.ownsRow w.heap.size 53 2 v m.ms.length (m.ms.flatMap itCells) ∧ Below w.heap.size w w'
theorem List_set (B b : Nat) (m : SS) (ml : List Mr) (A : Value) (w : World) (h : SetAt B b m ml A w) :
 Calls Tryz.prog 17 #[.pointer (some ⟨b,0,none⟩)] w (ItemsAre m w):=by
 obtain ⟨i0,hi0,hz0,hz1,hz2⟩:=info_parts info_item
 obtain ⟨Ao,cap,rfl,hc1,hc2,hmem⟩:=h.open_
 have hlen:=h.len
 have c0 : w.cell? ⟨b,0,none⟩ = some (.slice Ao ml.length cap):=h.blk.cell 0
 have HM:=hid hmem
 have HMS:=hid h.ms
 have hlt:=h.lt
 clear h hmem
 unfold ItemsAre
 go_enter Tryz.func17,Tryz.ntmps17
 go_wp2_with fail
 go_loopw [3,11] (fun v3 v11 wr => ∃ k : Nat,k ≤ ml.length ∧ v11 = .int .i64 (k : Int) ∧ Hid (wr.ownsRow w.heap.size 53 2 v3 k (((ml.take k).map (·.1)).flatMap itCells)) ∧ Hid (Below w.heap.size w wr)) (fun _ i _ => ml.length - (intOf i).toNat)
 case atStart => exact ⟨0,by omega,rfl,hid (World.ownsRow_nil _ _ _ _),hid (Below.refl _ _)⟩
 case round =>
  obtain ⟨k,hk,rfl,HO,HB⟩:=hrel
  by_cases hlk : k < ml.length
  ·obtain ⟨g,rfl,hg,hcs⟩:=HM.out (by omega)
   have hget : ml[k]? = some (ml[k]'hlk):=List.getElem?_eq_getElem hlk
   generalize ml[k]'hlk = q at hget
   obtain ⟨m0,m1,m2,m3⟩:=hcs wr (fun o => HB.out.cell (p:=⟨g,o,none⟩) hg) k q hget
   have HIT:=hid (it_snoc ml k q hget)
   have hil : Hid ((((ml.take k).map (·.1)).flatMap itCells).length = k * 2):=hid (by rw [it_len,List.length_map,List.length_take];omega)
   obtain ⟨⟨id,tx,t⟩,⟨ng,nc⟩,nd⟩:=q
   unfold rvOf at m2
   dsimp only at m0 m1 m2 m3
   have HIT2 : Hid (((ml.take (k + 1)).map (·.1)).flatMap itCells = ((ml.take k).map (·.1)).flatMap itCells ++ [.int .i64 (id : Int),.string tx]):=hid (by rw [HIT.out];rfl)
   generalize (flat t).length = N at m2
   have k0 : (0 : Int) ≤ (k : Int):=by omega
   have k1 : (k : Int) < (ml.length : Int):=by omega
   have HBW:=hid HB.out.size
   clear hget hcs HIT
   generalize ((ml.take k).map (·.1)).flatMap itCells = L at *
   have HR:=hid ((HO.out.alloc (.cells #[.int .i64 (id : Int),.string tx,.slice (some ⟨ng,0,none⟩) N nc,.string nd] 97)).alloc (.cells #[.int .i64 (id : Int),.string tx] 53))
   go_wp2_with (at_builtin;refine wpList_append_own_at _ rfl (.tmp 15) (.tmp 18) _ rfl w.heap.size 53 i0 _ 2 24 Tryz.underlying41 hi0 hz0 hz1 hz2 rfl (by omega) _ k L rfl HR.out ⟨wr.heap.size + 1,0,none⟩ 1 1 [.int .i64 (id : Int),.string tx] rfl rfl (new_two _ _ _ _ _ (by simp)) (by intro u hu;simp at hu;rcases hu with rfl | rfl <;> rfl) (by unfold maxLen;omega) (by omega) (by have:=HBW.out;simp;omega) ?_)
   intro v' w' hown' hg' _ hat'
   rw [← HIT2.out] at hown'
   have HO2:=hid hown'
   have HB2:=hid (below_own ((HB.out.alloc HBW.out _).alloc (by have:=HBW.out;simp;omega) _) (Nat.le_refl _) (by have:=HBW.out;simp;omega) HR.out hg')
   clear hown' hg' hat' HO HB HIT2 hil HR
   go_wp2_with fail
   go_roundw
   case rel => exact ⟨k + 1,by omega,by go_num,HO2,HB2⟩
   case measure => simp [intOf];omega
  ·obtain rfl : k = ml.length:=by omega
   go_wp2_with fail
   go_ret
   refine ⟨_,rfl,?_,HB.out⟩
   have:=HO.out
   rw [List.take_length] at this
   rw [HMS.out,List.length_map]
   exact this
set_option linter.unusedVariables false
theorem it_get (l : List Mb) : ∀ (k j : Nat) (h : Mb),l[k]? = some h → j < 2 → (l.flatMap itCells)[k * 2 + j]? = (itCells h)[j]?:=by
 induction l with
 | nil => intro k j x h;simp at h
 | cons m r ih =>
   intro k j x h hj
   rcases k with _ | k
   ·simp at h
    subst h
    simp only [List.flatMap_cons,Nat.zero_mul,Nat.zero_add]
    rw [List.getElem?_append_left (by simpa [itCells] using hj)]
   ·simp only [List.flatMap_cons]
    rw [List.getElem?_append_right (by simp [itCells];omega)]
    have e : (k + 1) * 2 + j - (itCells m).length = k * 2 + j:=by simp [itCells];omega
    rw [e]
    exact ih k j x (by simpa using h) hj
theorem it_open {w : World} {v : Value} {l : List Mb} (h : Rd w 2 v (l.flatMap itCells)) : ∃ (A : Option Addr) (cap : Nat),v = .slice A l.length cap ∧ l.length ≤ cap ∧ cap ≤ 9223372036854775807 ∧
 (0 < l.length → ∃ b off,A = some ⟨b,off,none⟩ ∧ b < w.heap.size ∧ ∀ (w' : World),(∀ o,w'.cell? ⟨b,o,none⟩ = w.cell? ⟨b,o,none⟩) → ∀ (k : Nat) (x : Mb),l[k]? = some x → w'.cell? ⟨b,off + k * 2,none⟩ = some (.int .i64 (x.id : Int)) ∧ w'.cell? ⟨b,off + k * 2 + 1,none⟩ = some (.string x.text)):=by
 obtain ⟨A,n,cap,rfl,h1,h2,h3,h4⟩:=h
 rw [it_len] at h3
 obtain rfl : n = l.length:=by omega
 refine ⟨A,cap,rfl,h1,h2,fun hn => ?_⟩
 obtain ⟨b,off,rfl,hc⟩:=h4 hn
 have hget : ∀ (k : Nat) (x : Mb),l[k]? = some x → ∀ j u,j < 2 → (itCells x)[j]? = some u → w.cell? ⟨b,off + (k * 2 + j),none⟩ = some u:=by
  intro k x hk j u hj hu
  exact hc _ _ (by rw [it_get l k j _ hk hj];exact hu)
 have hlt : b < w.heap.size:=by
  have hl : l[0]? = some (l[0]'hn):=List.getElem?_eq_getElem hn
  exact World.block_lt_of_cell? w _ (hget 0 _ hl 0 _ (by omega) rfl)
 refine ⟨b,off,rfl,hlt,fun w' hw k x hk => ?_⟩
 simp only [hw]
 exact ⟨hget k x hk 0 _ (by omega) rfl,hget k x hk 1 _ (by omega) rfl⟩
structure DoS (ws : List (List UInt8)) (J : List (Nat × Nat) → World → Prop) (nt : Nat) (c1 c2 : Value) : Prop where
 below : ∀ done W W',J done W → Below W.heap.size W W' → J done W'
 call : ∀ done W i e,J done W → (∃ x,ws[i]? = some x ∧ x.length ≤ e) → e ≤ nt → done.length ≤ ws.length * nt → Calls Tryz.prog 88 #[.int .i64 ((i : Nat) : Int),.int .i64 ((e : Nat) : Int),c1,c2] W (fun en w' => en = .returned (.tuple #[]) ∧ J (done ++ [(i,e)]) w' ∧ IntKeep W w')
theorem EachS_c (w0 : World) (Nb : Nat) (wv : Value) (root : Kn) (ws : List (List UInt8)) (Ks : List Kn) (ch : Kn → List (Nat × Value)) (bk ev : Kn → Value) (h1 : ws.length ≤ 20) (s : ByteArray) (hs : s.size ≤ 400) (c1 c2 : Value)
 (J : List (Nat × Nat) → World → Prop) (hT : ∀ done W,J done W → Tied w0 Nb wv root ws Ks ch bk ev W) (hD : DoS ws J s.size c1 c2) (w : World) (h0 : J [] w) :
 Calls Tryz.prog 87 #[.pointer (some ⟨Nb,0,none⟩),.string s,.func (.func 88) #[] #[c1,c2]] w (fun e w' => e = .returned (.tuple #[]) ∧ J (toldTo ws s.data.toList s.size) w'):=by
 have HT:=hid hT
 have HD:=hid hD
 have hw:=hT _ _ h0
 have n0 : w.cell? ⟨Nb,0,none⟩ = some (.pointer (some ⟨root.b,0,none⟩)):=hw.net.net.cell 0
 have HST : Hid (root ∈ Ks ∧ LongSuf ws (s.data.toList.take 0) root.u):=hid ⟨hw.net.rt,by rw [hw.net.ru,List.take_zero];exact LongSuf.nil ws⟩
 have H0:=hid h0
 clear hT hD hw h0
 go_enter Tryz.func87,Tryz.ntmps87
 go_wp2_with fail
 go_loopw [6,16] (fun v6 v16 wr => ∃ (i : Nat) (k : Kn),i ≤ s.size ∧ v6 = .pointer (some ⟨k.b,0,none⟩) ∧ v16 = .int .i64 (i : Int) ∧ Hid (k ∈ Ks ∧ LongSuf ws (s.data.toList.take i) k.u) ∧ Hid (J (toldTo ws s.data.toList i) wr)) (fun _ i _ => s.size - (intOf i).toNat)
 case atStart => exact ⟨0,root,by omega,rfl,rfl,HST,H0⟩
 case round =>
  clear HST H0 n0
  obtain ⟨i,k,hi,rfl,rfl,HK,HJ⟩:=hrel
  by_cases hlt : i < s.size
  ·have HLET:=hid (letter hlt)
   have HTD:=hid (HT.out _ _ HJ.out)
   have hc256 : s[i].toNat < 256:=s[i].toNat_lt
   have HSTEP : Hid (Calls Tryz.prog 126 #[.pointer (some ⟨Nb,0,none⟩),.pointer (some ⟨k.b,0,none⟩),.int .u8 (s[i].toNat : Int)] wr (fun e w' => ∃ r : Kn,e = .returned (.pointer (some ⟨r.b,0,none⟩)) ∧ (r ∈ Ks ∧ LongSuf ws (s.data.toList.take (i + 1)) r.u) ∧ wr = w')):=hid (by
    refine (step_c HTD.out.net HTD.out.tie HK.out.1 trivial (s.data.toList.take i) HK.out.2 s[i].toNat hc256).mono ?_
    rintro e w' ⟨r,rfl,hr,hl,_,rfl⟩
    refine ⟨r,rfl,⟨hr,?_⟩,rfl⟩
    rw [take_snoc HLET.out]
    simpa using hl)
   clear HK
   go_wp2_with (first
    | (go_at_call 126;refine HSTEP.out.mono ?_;rintro e w' ⟨r,rfl,hr,rfl⟩;have HR:=hid hr;have hrb:=HTD.out.net.blk r hr.1;obtain ⟨xs,hx1,hx2⟩:=HTD.out.rows r hr.1;obtain ⟨A,cap,hf⟩:=hx1.src.form;rw [hf] at hrb hx1;obtain ⟨N,hN⟩ : ∃ N,N = xs.length:=⟨_,rfl⟩;rw [← hN] at hrb hx1;have r2 : wr.cell? ⟨r.b,2,none⟩ = some (.slice A N cap):=hrb.cell 2;have HX1:=hid hx1;have HX2:=hid hx2;have HN:=hid hN;have HRB:=hid hrb;clear hr hf hx1 hx2 hN hrb)
    | (go_at_call 128;refine (Values_c A N cap wr).mono ?_;rintro e w1 ⟨rfl,hw1⟩;have HW1:=hid hw1;clear hw1)
    | (go_at_call 127;refine (Sorted_c wr.heap.size (.slice A N cap) xs (by have:=EndL.few HX2.out;omega) N HN.out w1 (by rw [HW1.out];exact (Blk.new wr 191 #[.slice A N cap]).cell 0) (by
        have hbl : Below wr.heap.size wr w1:=by rw [HW1.out];exact (Below.refl _ _).alloc (Nat.le_refl _) _
        exact (HX1.out.src.below hbl).vints)).mono ?_;rintro e w2 ⟨A2,cap2,ys,rfl,hy1,hy2,hy3,hy4,hb2⟩))
   have hbl1 : Below wr.heap.size wr w1:=by rw [HW1.out];exact (Below.refl _ _).alloc (Nat.le_refl _) _
   have hbl2 : Below wr.heap.size wr w2:=hbl1.trans (hb2.mono hbl1.size)
   have HYS : Hid (ys = endAt ws (s.data.toList.take (i + 1))):=hid (endl_sorted (HX2.out.long HR.out.2) hy2 hy1 hy3)
   have HNY : Hid (N = ys.length):=hid (by rw [HN.out,hy1])
   have hN20 : N ≤ 20:=by have:=EndL.few HX2.out;rw [← HN.out] at this;omega
   have HJ2 : Hid (J (toldTo ws s.data.toList i ++ (ys.take 0).map fun x => (x,i + 1)) w2):=hid (by simpa using HD.out.below _ _ _ HJ.out hbl2)
   have HROW:=hid hy4
   have HKR:=hid HR.out
   have hw1s : w1.heap.size ≤ w2.heap.size:=hb2.size
   generalize w1.heap.size = B1 at HROW hw1s
   clear hy1 hy2 hy3 hy4 hb2 hbl1 hbl2 HW1 HJ HX1 HX2 HN HRB r2 HSTEP HTD
   go_loopw [32] (fun v32 wx => ∃ j : Nat,j ≤ N ∧ v32 = .int .i64 (j : Int) ∧ Hid (J (toldTo ws s.data.toList i ++ (ys.take j).map fun x => (x,i + 1)) wx) ∧ Hid (wx.ownsRow B1 3 1 (.slice A2 N cap2) N (natVals ys))) (fun v _ => N - (intOf v).toNat)
   case atStart => exact ⟨0,by omega,rfl,HJ2,HROW⟩
   case round =>
    clear HJ2 HROW hw1s
    obtain ⟨j,hj,rfl,HJ,HROW⟩:=hrel
    by_cases hjn : j < N
    ·obtain ⟨y,hy⟩ : ∃ y,ys[j]? = some y:=⟨_,List.getElem?_eq_getElem (by rw [← HNY.out];exact hjn)⟩
     obtain ⟨g,cp,hv,hgb,hgl⟩:=HROW.out.form (by omega)
     have hA2 : A2 = some ⟨g,0,none⟩:=by injection hv
     have hcell : wr.cell? ⟨g,j,none⟩ = some (.int .i64 (y : Int)):=by
      obtain ⟨A',n',c',e1,_,_,_,e4⟩:=Rd.of_own HROW.out
      injection e1 with e1a e1b e1c
      subst e1a
      subst e1b
      obtain ⟨b',off',e5,e6⟩:=e4 (by omega)
      rw [hA2] at e5
      injection e5 with e5
      injection e5 with e5a e5b
      subst e5a
      subst e5b
      have:=e6 j (.int .i64 (y : Int)) (by simp [natVals,hy])
      simpa using this
     subst hA2
     have hym : ∃ x,ws[y]? = some x ∧ x.length ≤ i + 1:=by
      have:=List.mem_of_getElem? hy
      rw [HYS.out] at this
      obtain ⟨x,hx,hsx⟩:=endAt_mem.1 this
      refine ⟨x,hx,?_⟩
      have hl:=hsx.length_le
      rw [List.length_take] at hl
      omega
     have HCALL:=hid (HD.out.call _ wr y (i + 1) HJ.out hym (by omega) (by
      have q1:=told_few ws s.data.toList i
      have q2 : (ys.take j).length ≤ ws.length:=by
       have:=endAt_len ws (s.data.toList.take (i + 1))
       rw [← HYS.out] at this
       simp;omega
      rw [List.length_append,List.length_map]
      have q3 : ws.length * (i + 1) ≤ ws.length * s.size:=Nat.mul_le_mul_left _ (by omega)
      rw [Nat.mul_succ] at q3
      omega))
     have HYJ:=hid hy
     have he1 : ((i + 1 : Nat) : Int) = (i : Int) + 1:=by omega
     rw [he1] at HCALL
     clear hy hv hym he1
     go_wp2_with (go_at_call 88;refine HCALL.out.mono ?_;rintro e w3 ⟨rfl,hj3,hk3⟩;have HJ3:=hid hj3;have HK3:=hid hk3;clear hj3 hk3)
     go_roundw
     case rel => exact ⟨j + 1,by omega,by go_num,hid (by have:=HJ3.out;rw [List.take_add_one,HYJ.out];simpa using this),hid (own_int HROW.out HK3.out)⟩
     case measure => simp [intOf];omega
    ·obtain rfl : j = N:=by omega
     have HJF : Hid (J (toldTo ws s.data.toList (i + 1)) wr):=hid (by
      have:=HJ.out
      rw [HNY.out,List.take_length,HYS.out] at this
      rw [toldTo_succ]
      exact this)
     go_wp2_with fail
     go_roundw
     case rel => exact ⟨i + 1,r,by omega,rfl,by go_num,HKR,HJF⟩
     case measure => simp [intOf];omega
  ·obtain rfl : i = s.size:=by omega
   go_wp2_with fail
   go_end0
   exact ⟨rfl,HJ.out⟩
set_option linter.unusedVariables false
abbrev sv (x : ByteArray) : Value:=.string x
theorem str_keyW : KeyK Tryz.prog 9 sv:=string_key Tryz.underlying9
def one1 : Value:=.int .i64 1
def lstOf (l : List ByteArray) (done : List (Nat × Nat)) : List (ByteArray × Value):=done.foldl (fun acc p => putL acc (l.getD p.1 ⟨#[]⟩) one1) [(⟨#[]⟩,one1)]
theorem lstOf_snoc (l : List ByteArray) (done : List (Nat × Nat)) (p : Nat × Nat) : lstOf l (done ++ [p]) = putL (lstOf l done) (l.getD p.1 ⟨#[]⟩) one1:=by simp [lstOf]
theorem fold_get (l : List ByteArray) (n : ByteArray) : ∀ (done : List (Nat × Nat)) (acc : List (ByteArray × Value)),getL (done.foldl (fun acc p => putL acc (l.getD p.1 ⟨#[]⟩) one1) acc) n = if ∃ p ∈ done,l.getD p.1 ⟨#[]⟩ = n then some one1 else getL acc n:=by
 intro done
 induction done with
 | nil => intro acc;simp
 | cons p r ih =>
   intro acc
   rw [List.foldl_cons,ih,getL_put]
   by_cases h1 : ∃ q ∈ r,l.getD q.1 ⟨#[]⟩ = n
   ·rw [if_pos h1,if_pos]
    obtain ⟨q,h1,h2⟩:=h1
    exact ⟨q,List.mem_cons_of_mem _ h1,h2⟩
   ·rw [if_neg h1]
    by_cases h2 : n = l.getD p.1 ⟨#[]⟩
    ·rw [if_pos h2,if_pos ⟨p,List.mem_cons_self ..,h2.symm⟩]
    ·rw [if_neg h2,if_neg]
     rintro ⟨q,h3,h4⟩
     rcases List.mem_cons.1 h3 with rfl | h3
     ·exact h2 h4.symm
     ·exact h1 ⟨q,h3,h4⟩
theorem lst_get (l : List ByteArray) (n : ByteArray) (done : List (Nat × Nat)) : getL (lstOf l done) n = if (∃ p ∈ done,l.getD p.1 ⟨#[]⟩ = n) ∨ n = ⟨#[]⟩ then some one1 else none:=by
 unfold lstOf
 rw [fold_get]
 by_cases h1 : ∃ p ∈ done,l.getD p.1 ⟨#[]⟩ = n
 ·rw [if_pos h1,if_pos (.inl h1)]
 ·rw [if_neg h1]
  by_cases h2 : n = ⟨#[]⟩
  ·rw [if_pos (.inr h2),h2];simp [getL]
  ·rw [if_neg (by rintro (h | h);exact h1 h;exact h2 h)]
   simp [getL,h2]
structure ThereAt (B : Nat) (M ob lb : Nat) (lv : Value) (l : List ByteArray) (done : List (Nat × Nat)) (W : World) : Prop where
 bM : B ≤ M
 out : Blk W ob 104 #[.map (some M)]
 box : Blk W lb 94 #[lv]
 row : W.ownsRow B 9 1 lv l.length (strVals l)
 mp : Mp W M sv (lstOf l done)
section
variable {B M ob lb : Nat} {lv : Value} {l : List ByteArray} {done : List (Nat × Nat)} {W W' : World}
theorem ThereAt.below (h : ThereAt B M ob lb lv l done W) (hb : Below W.heap.size W W') : ThereAt B M ob lb lv l done W' :=
 ⟨h.bM,h.out.kept hb,h.box.kept hb,h.row.kept (row:=none) ⟨hb.os,hb.tape,hb.output,hb.size,fun i hi _ => hb.block i hi⟩ (by cases lv.ownBlock <;> simp),h.mp.below hb⟩
theorem not_cells {g : Nat} {t : TypeId} {cs : Array Value} {α : Type} {mk : α → Value} {m : List (α × Value)} (h : Blk W g t cs) (hm : Mp W M mk m) : some g ≠ some M:=fun e => by
 injection e with e
 subst e
 obtain ⟨es,clock,hb,_⟩:=hm
 unfold Blk at h
 rw [h] at hb
 cases hb
theorem row_not {α : Type} {mk : α → Value} {m : List (α × Value)} {base n size : Nat} {e : TypeId} {v : Value} {xs : List Value} (h : W.ownsRow base e size v n xs) (hm : Mp W M mk m) : v.ownBlock = none ∨ v.ownBlock ≠ some M:=by
 rcases h.2 with ⟨rfl,_⟩ | ⟨g,cap,cur,rfl,_,hgg,_⟩
 ·exact .inl rfl
 ·refine .inr fun e => ?_
  have : g = M:=Option.some.inj e
  subst this
  obtain ⟨es,clock,hb,_⟩:=hm
  rw [hb] at hgg
  cases hgg
theorem ThereAt.more (h : ThereAt B M ob lb lv l done W) {p : Nat × Nat} {x : ByteArray} (hx : l[p.1]? = some x) (hg : W.grownBy W' (some M)) (hm : Mp W' M sv (putL (lstOf l done) x one1)) : ThereAt B M ob lb lv l (done ++ [p]) W' :=
 ⟨h.bM,blk_grown h.out hg (not_cells h.out h.mp),blk_grown h.box hg (not_cells h.box h.mp),h.row.kept hg (row_not h.row h.mp),by
   rw [lstOf_snoc,List.getD,hx]
   exact hm⟩
end
theorem tied_map {w0 w w' : World} {Nb M : Nat} {wv : Value} {root : Kn} {ws : List (List UInt8)} {Ks : List Kn} {bk ev : Kn → Value} {ch : Kn → List (Nat × Value)} {m : List (ByteArray × Value)} (h : Tied w0 Nb wv root ws Ks ch bk ev w) (hm : Mp w M sv m) (hM : w0.heap.size ≤ M) (hk : ∀ k ∈ Ks,k.m ≠ M) (hg : w.grownBy w' (some M)) : Tied w0 Nb wv root ws Ks ch bk ev w':=by
 refine ⟨h.net.grown hg (fun g e => by injection e with e;omega) (not_cells h.net.net hm) (fun k hkk => ⟨not_cells (h.net.blk k hkk) hm,fun e => hk k hkk (Option.some.inj e)⟩),h.tie,fun s hs => ?_⟩
 obtain ⟨xs,h1,h2⟩:=h.rows s hs
 exact ⟨xs,h1.kept hg (row_not h1.2 hm),h2⟩
theorem Th1_c (B M ob lb : Nat) (lv : Value) (l : List ByteArray) (done : List (Nat × Nat)) (W : World) (h : ThereAt B M ob lb lv l done W) (i e : Nat) (x : ByteArray) (hx : l[i]? = some x) :
 Calls Tryz.prog 88 #[.int .i64 (i : Int),.int .i64 (e : Int),.pointer (some ⟨ob,0,none⟩),.pointer (some ⟨lb,0,none⟩)] W (fun en w' => en = .returned (.tuple #[]) ∧ ThereAt B M ob lb lv l (done ++ [(i,e)]) w' ∧ W.drew.grownBy w' (some M)):=by
 have hil : i < l.length:=(List.getElem?_eq_some_iff.1 hx).1
 have hd:=h.below (Below.refl _ _).drew
 obtain ⟨A,cap,rfl,hc1,hc2,hm⟩:=str_open (Rd.of_own hd.row)
 obtain ⟨b,off,rfl,hbl,hcs⟩:=hm (by omega)
 have sc : W.drew.cell? ⟨b,off + i,none⟩ = some (.string x):=hcs W.drew (fun o => rfl) i x hx
 have wc : W.drew.cell? ⟨lb,0,none⟩ = some (.slice (some ⟨b,off,none⟩) l.length cap):=hd.box.cell 0
 have oc : W.drew.cell? ⟨ob,0,none⟩ = some (.map (some M)):=hd.out.cell 0
 obtain ⟨W3,hup,hmp3,hg3,hs3⟩:=hd.mp.update str_keyW Tryz.underlying104 x one1
 have HF : Hid (ThereAt B M ob lb (.slice (some ⟨b,off,none⟩) l.length cap) l (done ++ [(i,e)]) W3 ∧ W.drew.grownBy W3 (some M)):=hid ⟨hd.more hx hg3 hmp3,hg3⟩
 unfold one1 sv at hup
 replace hup : (Instr.mapUpdate 104 (.map (some M)) (.string x) (.int .i64 1)).run Tryz.prog W.drew = .ok () W3:=hup
 have k0 : (0 : Int) ≤ (i : Int):=by omega
 have k1 : (i : Int) < (l.length : Int):=by omega
 clear h hd hm hcs hx hmp3 hg3 hs3
 go_enter Tryz.func88,Tryz.ntmps88
 go_wp2_with fail
 go_region
 all_goals (
  go_wp2
  go_end0
  exact ⟨rfl,HF.out⟩)
end Go.Proofs.YthhcpbfgoofppaaGreatDoor.setW
