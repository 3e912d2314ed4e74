import Derived.Test.YthhcpbfgoofppaaGreatDoorGCls
import Derived.Test.YthhcpbfgoofppaaGreatDoorHMemS
set_option linter.unusedVariables false
set_option linter.unusedSimpArgs false
open Wf
set_option maxRecDepth 100000
set_option maxHeartbeats 8000000
open Go.Lib (hid)
open Go.Proofs.Tryz hiding parts
namespace Go.Proofs.YthhcpbfgoofppaaGreatDoor
open Go.RowKit Wf
def B6X(n:Int)(w:W_)(e:Ending)(w':W_):Prop:=e=.returned (m7 n)/\Below w.heap.size w w'
def B9b(r:Bool)(w:W_)(e:Ending)(w':W_):Prop:=e=.returned (.bool r)/\w=w'
theorem B5D(n k:Int)(b:Nat)(w:W_)(d:w.cell? ⟨b,0,none⟩=some (.int .i64 k)):
 Calls prog 208 #[.int .i64 n,.pointer (some ⟨b,0,none⟩)] w (B9b (decide (0<=n/\n<k)) w):=by
 by_cases h0:0<=n
 .have c:decide (0<=n)=true:=by simpa using h0
  have a:decide (0<=n/\n<k)=decide (n<k):=by simp[h0]
  rw[a];go_enter func208,ntmps208;go_wp2;go_ret;exact⟨rfl,rfl⟩
 .have c:decide (0<=n)=false:=by simpa using h0
  have a:decide (0<=n/\n<k)=false:=by simp[h0]
  rw[a];go_enter func208,ntmps208;go_wp2;go_ret;exact⟨rfl,rfl⟩
theorem B1e(op x y:Int)(g f d c many:Nat)(w:W_):Calls prog 185 #[.agg #[.int .i64 op,.int .u64 g,.int .u64 f,.int .u64 d,.int .u64 c,.int .i64 x,.int .i64 y],.int .i64 many] w (B6X (V4 ⟨op,(g,f,d,c),x,y⟩ many) w):=by
 have r:∀o,((w.alloc o).alloc (.cells #[.int .i64 many] 3)).cell? ⟨w.heap.size+1,0,none⟩=some (.int .i64 many):=λo=>(J0.new2 w o 3 #[.int .i64 many]).cell 0
 have b:=hid (λo A=>B0z w o A);have k:Hid (∀W:W_,W.cell? ⟨w.heap.size+1,0,none⟩=some (.int .i64 many)->Calls prog 208 #[.int .i64 x,.pointer (some ⟨w.heap.size+1,0,none⟩)] W (B9b (decide (0<=x/\x<many)) W)):=hid λW h=>B5D x many _ W h
 have l:Hid (∀W:W_,W.cell? ⟨w.heap.size+1,0,none⟩=some (.int .i64 many)->Calls prog 208 #[.int .i64 y,.pointer (some ⟨w.heap.size+1,0,none⟩)] W (B9b (decide (0<=y/\y<many)) W)):=hid λW h=>B5D y many _ W h
 have a:=hid r;clear r;have z:S9 g f d c (0:Nat) (0:Nat) (0:Nat) (0:Nat)=true↔(g,f,d,c)=zc:=A5h g f d c 0 0 0 0;have n:=hid z;clear z;have t:op<1\/5<op\/op=1\/op=2\/op=3\/op=4\/op=5:=by omega
 rcases t with h|h|rfl|rfl|rfl|rfl|rfl
 .have C:decide (op<1)=true:=by simpa using h
  have j:Hid (V4 ⟨op,(g,f,d,c),x,y⟩ many=1):=hid (by unfold V4;simp;omega);rw[j.out];go_enter func185,ntmps185
  go_wp2_with (first
   | (go_at_call_of 208 (Value.int .i64 y);refine(l.out _ (a.out _)).mono ?_;rintro e i⟨rfl,rfl⟩)
   | (go_at_call_of 208 (Value.int .i64 x);refine(k.out _ (a.out _)).mono ?_;rintro e i⟨rfl,rfl⟩))
  go_ret;exact⟨rfl,b.out _ _⟩
 .have C:=df_ (op<1)
  have D:decide (5<op)=true:=by simpa using h
  have j:Hid (V4 ⟨op,(g,f,d,c),x,y⟩ many=1):=hid (by unfold V4;simp;omega);rw[j.out];go_enter func185,ntmps185
  go_wp2_with (first
   | (go_at_call_of 208 (Value.int .i64 y);refine(l.out _ (a.out _)).mono ?_;rintro e i⟨rfl,rfl⟩)
   | (go_at_call_of 208 (Value.int .i64 x);refine(k.out _ (a.out _)).mono ?_;rintro e i⟨rfl,rfl⟩))
  go_ret;exact⟨rfl,b.out _ _⟩
 .skip
  by_cases hX:0<=x/\x<(many:Int)
  .have m:decide (0<=x/\x<(many:Int))=true:=by simpa using hX
   by_cases hy:y=0
   .have p:(y !=0)=false:=by simpa using hy
    have j:Hid (V4 ⟨1,(g,f,d,c),x,y⟩ many=0):=hid (by unfold V4;simp[hX,hy]);clear hX hy;rw[m] at k;rw[j.out];go_enter func185,ntmps185
    go_wp2_with (first
     | (go_at_call_of 208 (Value.int .i64 y);refine(l.out _ (a.out _)).mono ?_;rintro e i⟨rfl,rfl⟩)
     | (go_at_call_of 208 (Value.int .i64 x);refine(k.out _ (a.out _)).mono ?_;rintro e i⟨rfl,rfl⟩))
    go_ret;exact⟨rfl,b.out _ _⟩
   .have p:(y !=0)=true:=by simpa using hy
    have j:Hid (V4 ⟨1,(g,f,d,c),x,y⟩ many=2):=hid (by unfold V4;simp[hX,hy]);clear hX hy;rw[m] at k;rw[j.out];go_enter func185,ntmps185
    go_wp2_with (first
     | (go_at_call_of 208 (Value.int .i64 y);refine(l.out _ (a.out _)).mono ?_;rintro e i⟨rfl,rfl⟩)
     | (go_at_call_of 208 (Value.int .i64 x);refine(k.out _ (a.out _)).mono ?_;rintro e i⟨rfl,rfl⟩))
    go_ret;exact⟨rfl,b.out _ _⟩
  .have m:decide (0<=x/\x<(many:Int))=false:=decide_eq_false hX
   have j:Hid (V4 ⟨1,(g,f,d,c),x,y⟩ many=1):=hid (by unfold V4;simp[hX]);clear hX;rw[m] at k;rw[j.out];go_enter func185,ntmps185
   go_wp2_with (first
    | (go_at_call_of 208 (Value.int .i64 y);refine(l.out _ (a.out _)).mono ?_;rintro e i⟨rfl,rfl⟩)
    | (go_at_call_of 208 (Value.int .i64 x);refine(k.out _ (a.out _)).mono ?_;rintro e i⟨rfl,rfl⟩))
   go_ret;exact⟨rfl,b.out _ _⟩
 .skip
  by_cases hX:0<=x/\x<(many:Int)
  .have m:decide (0<=x/\x<(many:Int))=true:=by simpa using hX
   by_cases hY:0<=y/\y<(many:Int)
   .have s:decide (0<=y/\y<(many:Int))=true:=by simpa using hY
    by_cases hC:(g,f,d,c)=zc
    .have q:S9 g f d c 0 0 0 0=true:=n.out.2 hC
     have j:Hid (V4 ⟨2,(g,f,d,c),x,y⟩ many=0):=hid (by unfold V4;simp[hX,hY,hC]);clear hX hY hC;rw[m] at k;rw[s] at l;rw[j.out];go_enter func185,ntmps185
     go_wp2_with (first
      | (go_at_call_of 208 (Value.int .i64 y);refine(l.out _ (a.out _)).mono ?_;rintro e i⟨rfl,rfl⟩)
      | (go_at_call_of 208 (Value.int .i64 x);refine(k.out _ (a.out _)).mono ?_;rintro e i⟨rfl,rfl⟩))
     go_ret;exact⟨rfl,b.out _ _⟩
    .have q:S9 g f d c 0 0 0 0=false:=by cases hh:S9 (g:Int) f d c 0 0 0 0 with | false=>rfl | true=>exact absurd (n.out.1 hh) hC
     have j:Hid (V4 ⟨2,(g,f,d,c),x,y⟩ many=2):=hid (by unfold V4;simp[hX,hY,hC]);clear hX hY hC;rw[m] at k;rw[s] at l;rw[j.out];go_enter func185,ntmps185
     go_wp2_with (first
      | (go_at_call_of 208 (Value.int .i64 y);refine(l.out _ (a.out _)).mono ?_;rintro e i⟨rfl,rfl⟩)
      | (go_at_call_of 208 (Value.int .i64 x);refine(k.out _ (a.out _)).mono ?_;rintro e i⟨rfl,rfl⟩))
     go_ret;exact⟨rfl,b.out _ _⟩
   .have s:decide (0<=y/\y<(many:Int))=false:=decide_eq_false hY
    have j:Hid (V4 ⟨2,(g,f,d,c),x,y⟩ many=1):=hid (by unfold V4;simp[hX,hY]);clear hX hY;rw[m] at k;rw[s] at l;rw[j.out];go_enter func185,ntmps185
    go_wp2_with (first
     | (go_at_call_of 208 (Value.int .i64 y);refine(l.out _ (a.out _)).mono ?_;rintro e i⟨rfl,rfl⟩)
     | (go_at_call_of 208 (Value.int .i64 x);refine(k.out _ (a.out _)).mono ?_;rintro e i⟨rfl,rfl⟩))
    go_ret;exact⟨rfl,b.out _ _⟩
  .have m:decide (0<=x/\x<(many:Int))=false:=decide_eq_false hX
   have j:Hid (V4 ⟨2,(g,f,d,c),x,y⟩ many=1):=hid (by unfold V4;simp[hX]);clear hX;rw[m] at k;rw[j.out];go_enter func185,ntmps185
   go_wp2_with (first
    | (go_at_call_of 208 (Value.int .i64 y);refine(l.out _ (a.out _)).mono ?_;rintro e i⟨rfl,rfl⟩)
    | (go_at_call_of 208 (Value.int .i64 x);refine(k.out _ (a.out _)).mono ?_;rintro e i⟨rfl,rfl⟩))
   go_ret;exact⟨rfl,b.out _ _⟩
 .skip
  by_cases hX:0<=x/\x<(many:Int)
  .have m:decide (0<=x/\x<(many:Int))=true:=by simpa using hX
   by_cases hC:(g,f,d,c)=zc
   .have q:S9 g f d c 0 0 0 0=true:=n.out.2 hC
    by_cases hy:y=0
    .have p:(y !=0)=false:=by simpa using hy
     have j:Hid (V4 ⟨3,(g,f,d,c),x,y⟩ many=0):=hid (by unfold V4;simp[hX,hC,hy]);clear hX hC hy;rw[m] at k;rw[j.out];go_enter func185,ntmps185
     go_wp2_with (first
      | (go_at_call_of 208 (Value.int .i64 y);refine(l.out _ (a.out _)).mono ?_;rintro e i⟨rfl,rfl⟩)
      | (go_at_call_of 208 (Value.int .i64 x);refine(k.out _ (a.out _)).mono ?_;rintro e i⟨rfl,rfl⟩))
     go_ret;exact⟨rfl,b.out _ _⟩
    .have p:(y !=0)=true:=by simpa using hy
     have j:Hid (V4 ⟨3,(g,f,d,c),x,y⟩ many=2):=hid (by unfold V4;simp[hX,hC,hy]);clear hX hC hy;rw[m] at k;rw[j.out];go_enter func185,ntmps185
     go_wp2_with (first
      | (go_at_call_of 208 (Value.int .i64 y);refine(l.out _ (a.out _)).mono ?_;rintro e i⟨rfl,rfl⟩)
      | (go_at_call_of 208 (Value.int .i64 x);refine(k.out _ (a.out _)).mono ?_;rintro e i⟨rfl,rfl⟩))
     go_ret;exact⟨rfl,b.out _ _⟩
   .have q:S9 g f d c 0 0 0 0=false:=by cases hh:S9 (g:Int) f d c 0 0 0 0 with | false=>rfl | true=>exact absurd (n.out.1 hh) hC
    have j:Hid (V4 ⟨3,(g,f,d,c),x,y⟩ many=2):=hid (by unfold V4;simp[hX,hC]);clear hX hC;rw[m] at k;rw[j.out];go_enter func185,ntmps185
    go_wp2_with (first
     | (go_at_call_of 208 (Value.int .i64 y);refine(l.out _ (a.out _)).mono ?_;rintro e i⟨rfl,rfl⟩)
     | (go_at_call_of 208 (Value.int .i64 x);refine(k.out _ (a.out _)).mono ?_;rintro e i⟨rfl,rfl⟩))
    go_ret;exact⟨rfl,b.out _ _⟩
  .have m:decide (0<=x/\x<(many:Int))=false:=decide_eq_false hX
   have j:Hid (V4 ⟨3,(g,f,d,c),x,y⟩ many=1):=hid (by unfold V4;simp[hX]);clear hX;rw[m] at k;rw[j.out];go_enter func185,ntmps185
   go_wp2_with (first
    | (go_at_call_of 208 (Value.int .i64 y);refine(l.out _ (a.out _)).mono ?_;rintro e i⟨rfl,rfl⟩)
    | (go_at_call_of 208 (Value.int .i64 x);refine(k.out _ (a.out _)).mono ?_;rintro e i⟨rfl,rfl⟩))
   go_ret;exact⟨rfl,b.out _ _⟩
 .skip
  by_cases hX:0<=x/\x<(many:Int)
  .have m:decide (0<=x/\x<(many:Int))=true:=by simpa using hX
   by_cases hC:(g,f,d,c)=zc
   .have q:S9 g f d c 0 0 0 0=true:=n.out.2 hC
    by_cases hy:y=0
    .have p:(y !=0)=false:=by simpa using hy
     have j:Hid (V4 ⟨4,(g,f,d,c),x,y⟩ many=0):=hid (by unfold V4;simp[hX,hC,hy]);clear hX hC hy;rw[m] at k;rw[j.out];go_enter func185,ntmps185
     go_wp2_with (first
      | (go_at_call_of 208 (Value.int .i64 y);refine(l.out _ (a.out _)).mono ?_;rintro e i⟨rfl,rfl⟩)
      | (go_at_call_of 208 (Value.int .i64 x);refine(k.out _ (a.out _)).mono ?_;rintro e i⟨rfl,rfl⟩))
     go_ret;exact⟨rfl,b.out _ _⟩
    .have p:(y !=0)=true:=by simpa using hy
     have j:Hid (V4 ⟨4,(g,f,d,c),x,y⟩ many=2):=hid (by unfold V4;simp[hX,hC,hy]);clear hX hC hy;rw[m] at k;rw[j.out];go_enter func185,ntmps185
     go_wp2_with (first
      | (go_at_call_of 208 (Value.int .i64 y);refine(l.out _ (a.out _)).mono ?_;rintro e i⟨rfl,rfl⟩)
      | (go_at_call_of 208 (Value.int .i64 x);refine(k.out _ (a.out _)).mono ?_;rintro e i⟨rfl,rfl⟩))
     go_ret;exact⟨rfl,b.out _ _⟩
   .have q:S9 g f d c 0 0 0 0=false:=by cases hh:S9 (g:Int) f d c 0 0 0 0 with | false=>rfl | true=>exact absurd (n.out.1 hh) hC
    have j:Hid (V4 ⟨4,(g,f,d,c),x,y⟩ many=2):=hid (by unfold V4;simp[hX,hC]);clear hX hC;rw[m] at k;rw[j.out];go_enter func185,ntmps185
    go_wp2_with (first
     | (go_at_call_of 208 (Value.int .i64 y);refine(l.out _ (a.out _)).mono ?_;rintro e i⟨rfl,rfl⟩)
     | (go_at_call_of 208 (Value.int .i64 x);refine(k.out _ (a.out _)).mono ?_;rintro e i⟨rfl,rfl⟩))
    go_ret;exact⟨rfl,b.out _ _⟩
  .have m:decide (0<=x/\x<(many:Int))=false:=decide_eq_false hX
   have j:Hid (V4 ⟨4,(g,f,d,c),x,y⟩ many=1):=hid (by unfold V4;simp[hX]);clear hX;rw[m] at k;rw[j.out];go_enter func185,ntmps185
   go_wp2_with (first
    | (go_at_call_of 208 (Value.int .i64 y);refine(l.out _ (a.out _)).mono ?_;rintro e i⟨rfl,rfl⟩)
    | (go_at_call_of 208 (Value.int .i64 x);refine(k.out _ (a.out _)).mono ?_;rintro e i⟨rfl,rfl⟩))
   go_ret;exact⟨rfl,b.out _ _⟩
 .skip
  by_cases hC:(g,f,d,c)=zc
  .have q:S9 g f d c 0 0 0 0=true:=n.out.2 hC
   by_cases hy:y=0
   .have p:(y !=0)=false:=by simpa using hy
    by_cases hx:x=0
    .have B:(x !=0)=false:=by simpa using hx
     have j:Hid (V4 ⟨5,(g,f,d,c),x,y⟩ many=0):=hid (by unfold V4;simp[hC,hy,hx]);clear hC hy hx;rw[j.out];go_enter func185,ntmps185
     go_wp2_with (first
      | (go_at_call_of 208 (Value.int .i64 y);refine(l.out _ (a.out _)).mono ?_;rintro e i⟨rfl,rfl⟩)
      | (go_at_call_of 208 (Value.int .i64 x);refine(k.out _ (a.out _)).mono ?_;rintro e i⟨rfl,rfl⟩))
     go_ret;exact⟨rfl,b.out _ _⟩
    .have B:(x !=0)=true:=by simpa using hx
     have j:Hid (V4 ⟨5,(g,f,d,c),x,y⟩ many=2):=hid (by unfold V4;simp[hC,hy,hx]);clear hC hy hx;rw[j.out];go_enter func185,ntmps185
     go_wp2_with (first
      | (go_at_call_of 208 (Value.int .i64 y);refine(l.out _ (a.out _)).mono ?_;rintro e i⟨rfl,rfl⟩)
      | (go_at_call_of 208 (Value.int .i64 x);refine(k.out _ (a.out _)).mono ?_;rintro e i⟨rfl,rfl⟩))
     go_ret;exact⟨rfl,b.out _ _⟩
   .have p:(y !=0)=true:=by simpa using hy
    have j:Hid (V4 ⟨5,(g,f,d,c),x,y⟩ many=2):=hid (by unfold V4;simp[hC,hy]);clear hC hy;rw[j.out];go_enter func185,ntmps185
    go_wp2_with (first
     | (go_at_call_of 208 (Value.int .i64 y);refine(l.out _ (a.out _)).mono ?_;rintro e i⟨rfl,rfl⟩)
     | (go_at_call_of 208 (Value.int .i64 x);refine(k.out _ (a.out _)).mono ?_;rintro e i⟨rfl,rfl⟩))
    go_ret;exact⟨rfl,b.out _ _⟩
  .have q:S9 g f d c 0 0 0 0=false:=by cases hh:S9 (g:Int) f d c 0 0 0 0 with | false=>rfl | true=>exact absurd (n.out.1 hh) hC
   have j:Hid (V4 ⟨5,(g,f,d,c),x,y⟩ many=2):=hid (by unfold V4;simp[hC]);clear hC;rw[j.out];go_enter func185,ntmps185
   go_wp2_with (first
    | (go_at_call_of 208 (Value.int .i64 y);refine(l.out _ (a.out _)).mono ?_;rintro e i⟨rfl,rfl⟩)
    | (go_at_call_of 208 (Value.int .i64 x);refine(k.out _ (a.out _)).mono ?_;rintro e i⟨rfl,rfl⟩))
   go_ret;exact⟨rfl,b.out _ _⟩
theorem B5l{many:Nat}{l:List St}{k:Nat}{s:St}(h:l[k]?=some s):A0l many (l.drop k)=if V4 s many≠0 then V4 s many else A0l many (l.drop (k+1)):=by
 obtain⟨a,b⟩:=List.getElem?_eq_some_iff.1 h;rw[List.drop_eq_getElem_cons a,b]
 rfl
theorem A5u(l:List St)(v:V_)(w:W_)(L:RdS w v l)(M:l.length<=9223372036854775807):Calls prog 161 #[v] w (B6X (A3l l) w):=by
 obtain⟨A,cap,rfl,N,G,m⟩:=L.open_;have O:=hid m;clear m L;by_cases hbig:200<l.length
 .have z:A3l l=3:=by unfold A3l;rw[if_pos hbig]
  have d1:=dt_ ((200:Int)<l.length);have d2:=dt_ (200<l.length);rw[z];go_enter func161,ntmps161;go_wp2;go_ret;exact⟨rfl,br_⟩
 .have d1:=df_ ((200:Int)<l.length)
  have d2:=df_ (200<l.length);by_cases h0:l.length=0
  .have z:A3l l=4:=by unfold A3l;rw[if_neg hbig,if_pos h0]
   rw[z];have d3:((l.length:Int)==0)=true:=beq_iff_eq.2 (by omega);clear h0;go_enter func161,ntmps161;go_wp2;go_ret;exact⟨rfl,br_⟩
  .have z:A3l l=A0l l.length l:=by unfold A3l;rw[if_neg hbig,if_neg h0]
   rw[z];have d3:((l.length:Int)==0)=false:=beq_eq_false_iff_ne.2 (by omega);obtain⟨b,Z,rfl,H,a⟩:=O.out (by omega);have HC:=hid a;clear h0 a z O;go_enter func161,ntmps161;go_wp2
   go_loopw [16] (λv16 wr=>∃k:Nat,k<=l.length/\v16=.int .i64 k/\Hid (A0l l.length l=A0l l.length (l.drop k))/\Hid (Below w.heap.size w wr)) (λi _=>l.length - (intOf i).toNat)
   case atStart=>exact⟨0,by omega,rfl,hid (by rw[List.drop_zero]),hid br_⟩
   case round =>
    obtain⟨k,hk,rfl,E,F⟩:=hrel;by_cases hlt:k<l.length
    .have C:l[k]?=some (l[k]'hlt):=List.getElem?_eq_getElem hlt
     generalize l[k]'hlt=s at C;obtain⟨Y,X,V,T,S,R,Q⟩:=HC.out wr (λo=>F.out.cell (p:=⟨b,o,none⟩) H) k s C;have hat:=B5l (many:=l.length) C;obtain⟨op,⟨h,g,f,d⟩,x,y⟩:=s;dsimp only at Y X V T S R Q;have t:=hid hat;have aa:(k:Int)<l.length:=by omega
     have j:Hid (∀o,Below w.heap.size w (wr.alloc o)):=hid λo=>F.out.alloc F.out.size _
     clear C hat;by_cases he:V4 ⟨op,(h,g,f,d),x,y⟩ l.length=0
     .have q:Hid (∀W,Calls prog 185 #[.agg #[.int .i64 op,.int .u64 h,.int .u64 g,.int .u64 f,.int .u64 d,.int .i64 x,.int .i64 y],.int .i64 l.length] W (λe w'=>e=.returned .nilIface/\Below W.heap.size W w')):=hid λW=>(B1e op x y h g f d l.length W).mono (by
       rintro e w'⟨B,J⟩;rw[he,j5] at B;exact⟨B,J⟩)
      have D:Hid (A0l l.length l=A0l l.length (l.drop (k+1))):=hid (by rw[E.out,t.out,if_neg (by simp[he])]);clear he
      go_wp2_with (go_at_call 185;refine(q.out _).mono ?_;rintro e P⟨rfl,c⟩;have r:=hid ((j.out _).trans (c.mono (j.out _).size));clear c)
      go_roundw
      case rel=>exact⟨k+1,by omega,by go_num,D,r⟩
      case measure=>simp[intOf];omega
     .have q:Hid (∀W,Calls prog 185 #[.agg #[.int .i64 op,.int .u64 h,.int .u64 g,.int .u64 f,.int .u64 d,.int .i64 x,.int .i64 y],.int .i64 l.length] W (λe w'=>e=.returned (.iface 81 (.int .i64 (V4 ⟨op,(h,g,f,d),x,y⟩ l.length)))/\Below W.heap.size W w')):=hid λW=>(B1e op x y h g f d l.length W).mono (by
       rintro e w'⟨B,J⟩;rw[L8 he] at B;exact⟨B,J⟩)
      have D:Hid (A0l l.length l=V4 ⟨op,(h,g,f,d),x,y⟩ l.length/\V4 ⟨op,(h,g,f,d),x,y⟩ l.length≠0):=hid ⟨by rw[E.out,t.out,if_pos he],he⟩;clear he t;generalize V4 ⟨op,(h,g,f,d),x,y⟩ l.length=n at *
      go_wp2_with (go_at_call 185;refine(q.out _).mono ?_;rintro e P⟨rfl,c⟩;have r:=hid ((j.out _).trans (c.mono (j.out _).size));clear c)
      go_ret;exact⟨by rw[D.out.1,L8 D.out.2];rfl,r.out⟩
    .obtain rfl:k=l.length:=by omega
     have HF:Hid (A0l l.length l=0):=hid (by rw[E.out,List.drop_length];rfl);have d4:decide (l.length<l.length)=false:=by simp
     clear E;go_wp2;go_ret;exact⟨by rw[HF.out];rfl,F.out⟩
def l9(p:List St)(n:Nat)(f:Int):Int:=if A3l p≠0 then A3l p else if 400<n then 3 else if f<0\/(n:Int)<f then 1 else 0
theorem A9s(l:List St)(v:V_)(s:B_)(f:Int)(w:W_)(n:RdS w v l)(i:l.length<=9223372036854775807):Calls prog 163 #[v,.string s,.int .i64 f] w (B6X (l9 l s.size f) w):=by
 obtain⟨A,cap,rfl,p,o,g⟩:=n.open_;have k:=hid λW h=>A5u l (.slice A l.length cap) W h i
 have j:=hid n;clear n g;by_cases hc:A3l l=0
 .have c:=hid hc
  clear hc;by_cases h1:400<s.size
  .have d:Hid (l9 l s.size f=3):=hid (by unfold l9;rw[if_neg (by simp[c.out]),if_pos h1])
   have z:=dt_ ((400:Int)<s.size);have y:=dt_ (400<s.size);go_enter func163,ntmps163;go_wp2_with fail;refine(k.out _ j.out).mono ?_;rintro e m⟨rfl,a⟩;rw[c.out,j5];have b:=hid a;clear a;go_wp2_with fail;go_ret;exact⟨by rw[d.out];rfl,b.out⟩
  .have z:=df_ ((400:Int)<s.size)
   have y:=df_ (400<s.size);by_cases h2:f<0
   .have d:Hid (l9 l s.size f=1):=hid (by unfold l9;rw[if_neg (by simp[c.out]),if_neg h1,if_pos (.inl h2)])
    have t:decide (f<0)=true:=by simpa using h2
    go_enter func163,ntmps163;go_wp2_with fail;refine(k.out _ j.out).mono ?_;rintro e m⟨rfl,a⟩;rw[c.out,j5];have b:=hid a;clear a;go_wp2_with fail;go_ret;exact⟨by rw[d.out];rfl,b.out⟩
   .have t:=df_ (f<0)
    by_cases h3:(s.size:Int)<f
    .have d:Hid (l9 l s.size f=1):=hid (by unfold l9;rw[if_neg (by simp[c.out]),if_neg h1,if_pos (.inr h3)])
     have r:decide ((s.size:Int)<f)=true:=by simpa using h3
     go_enter func163,ntmps163;go_wp2_with fail;refine(k.out _ j.out).mono ?_;rintro e m⟨rfl,a⟩;rw[c.out,j5];have b:=hid a;clear a;go_wp2_with fail;go_ret;exact⟨by rw[d.out];rfl,b.out⟩
    .have d:Hid (l9 l s.size f=0):=hid (by unfold l9;rw[if_neg (by simp[c.out]),if_neg h1,if_neg (by omega)])
     have r:=df_ ((s.size:Int)<f);go_enter func163,ntmps163;go_wp2_with fail;refine(k.out _ j.out).mono ?_;rintro e m⟨rfl,a⟩;rw[c.out,j5];have b:=hid a;clear a;go_wp2_with fail;go_ret;exact⟨by rw[d.out];rfl,b.out⟩
 .have d:Hid (l9 l s.size f=A3l l):=hid (by unfold l9;rw[if_pos hc])
  have q:=hid (L8 hc);clear hc;go_enter func163,ntmps163;go_wp2_with fail;refine(k.out _ j.out).mono ?_;rintro e m⟨rfl,a⟩;rw[q.out];have b:=hid a;clear a;go_wp2_with fail;go_ret;exact⟨by rw[d.out,q.out];rfl,b.out⟩
