import Derived.Test.YthhcpbfgoofppaaGreatDoorGRdrA
import Derived.Test.YthhcpbfgoofppaaGreatDoorGWd
import Derived.Deep.CutBlock
import Derived.Deep.CutRange
set_option linter.unusedVariables false
set_option linter.unusedSimpArgs false
open Wf
set_option maxRecDepth 100000
set_option maxHeartbeats 8000000
open Go.Lib (hid)
open Go.Proofs.Tryz hiding parts
namespace Wf
theorem B0d{s:List U_}{i k:Nat}(a:i<=s.length)(h:A0P s i=.bad k):k<=s.length:=by
 unfold A0P at h
 split at h
 .cases h;omega
 .split at h
  .cases h;omega
  .split at h
   .cases h;omega
   .split at h
    .cases h;omega
    .cases h
theorem A27{s:List U_}{i k:Nat}(a:i<=s.length)(h:D4 s i=.bad k):k<=s.length:=by
 unfold D4 at h
 split at h
 .cases h;omega
 .split at h
  .split at h
   .cases h;omega
   .split at h
    .exact B0d a h
    .split at h
     .cases h
     .cases h;omega
  .split at h
   .cases h;omega
   .cases h
theorem A4Z{s:List U_}{i k:Nat}(c:i<=s.length)(h:W5 s i=.bad k):k<=s.length:=by
 unfold W5 at h
 split at h
 .rename_i b e
  cases h;exact A27 c e
 .rename_i f j e
  have g:=T8 e
  split at h
  .rename_i a
   have:=V0 a
   split at h
   .rename_i b d
    cases h;exact A27 (by omega) d
   .split at h
    .cases h;omega
    .cases h
  .cases h
theorem A3a{s:List U_}:∀(n i:Nat)(c:X4) (k:Nat),s.length - i<=n->i<=s.length->J3 s i c=.bad k->k<=s.length:=by
 intro n
 induction n with
 | zero =>
   intro i c k b a h;by_cases h1:s[i]?=some 93
   .rw[j9 c h1] at h;cases h
   .cases ht:W5 s i with
    | bad k'=>rw[q8 c h1 ht] at h;cases h;exact A4Z a ht
    | ok p j=>have:=A0A ht;omega
 | succ n ih =>
   intro i c k b a h;by_cases h1:s[i]?=some 93
   .rw[j9 c h1] at h;cases h
   .cases ht:W5 s i with
    | bad k'=>rw[q8 c h1 ht] at h;cases h;exact A4Z a ht
    | ok p j =>
      have:=A0A ht;rw[s9 c h1 ht] at h;exact ih j _ k (by omega) this.2.1 h
theorem A5k{s:List U_}{i k:Nat}(a:i<=s.length)(h:P2 s i=.bad k):k<=s.length:=by
 unfold P2 at h
 split at h
 .rename_i e
  have:=V0 e
  split at h
  .rename_i c b
   cases h;exact A3a _ _ _ _ (lr_ _) (by omega) b
  .cases h
 .exact A3a _ _ _ _ (lr_ _) a h
theorem B0J{s:List U_}:∀(n i:Nat),s.length - i<=n->i<=s.length ->
 (∀k,P3 s i=.bad k->k<=s.length)/\(∀k,V6 s i=.bad k->k<=s.length)/\(∀k,W9 s i=.bad k->k<=s.length):=by
 intro n
 induction n with
 | zero =>
   intro i m c;obtain rfl:i=s.length:=by omega
   have d:O3 s s.length=true:=by unfold O3;simp
   have b:V6 s s.length=.ok .empty s.length:=by rw[V6,if_pos d]
   refine⟨λk h=>?_,λk h=>?_,λk h=>?_⟩
   .rw[P3,dif_neg (by omega)] at h;cases h;omega
   .rw[b] at h;cases h
   .rw[W9,b] at h;simp at h
 | succ n ih =>
   intro i m c
   have l:∀k,P3 s i=.bad k->k<=s.length:=by
    intro k h;rw[P3] at h
    split at h
    .rename_i hlt
     split at h
     .split at h
      .rename_i a e
       cases h;exact(ih (i+1) (by omega) (by omega)).2.2 _ e
      .rename_i t j e
       have:=(M6 _ (i+1) (lr_ _) (by omega)).2.2 _ _ e
       split at h
       .cases h
       .cases h;exact this.2.1
     .split at h
      .split at h
       .rename_i a e;cases h;exact A5k (by omega) e
       .cases h
      .split at h
       .cases h
       .split at h
        .cases h
        .split at h
         .cases h
         .split at h
          .rename_i a e;cases h;exact A27 c e
          .cases h
    .cases h;omega
   have b:∀k,V6 s i=.bad k->k<=s.length:=by
    intro k h;rw[V6] at h
    split at h
    .cases h
    .split at h
     .rename_i a e;cases h;exact l _ e
     .rename_i t j e
      have f:=(M6 _ i (lr_ _) c).1 _ _ e;have o:=Z9 _ j t (lr_ _) f.2.1 f.2.2.1
      split at h
      .cases h
      .split at h
       .split at h
        .rename_i a g;cases h;exact(ih _ (by omega) o.2.1).2.1 _ g
        .cases h
       .cases h;omega
   refine⟨l,b,λk h=>?_⟩;rw[W9] at h
   split at h
   .rename_i a e;cases h;exact b _ e
   .rename_i t j e
    have f:=(M6 _ i (lr_ _) c).2.1 _ _ e
    split at h
    .rename_i g
     have:=V0 g
     split at h
     .split at h
      .rename_i a p;cases h;exact(ih (j+1) (by omega) (by omega)).2.2 _ p
      .cases h
     .cases h;omega
    .cases h
theorem A6a{s:List U_}{k:Nat}(h:W9 s 0=.bad k):k<=s.length:=(B0J _ 0 (lr_ _) (by omega)).2.2 k h
def A0F(s:List U_)(i j:Nat)(a:Option Nat)(l:List Nd):Prop:=match a with
 | none=>∃u,l=A0 u/\okT u/\A1Q s i=.ok (R0 s j u).1 (R0 s j u).2/\i<j/\j<=s.length/\l.length+1+2*i<=2*j
 | some k=>A3v (A1Q s i) s i 0 j (some k) l
theorem A0F.of_ok{s:List U_}{i j:Nat}{u:Rx}(a:i<=s.length)(h:P3 s i=.ok u j):A0F s i j none (A0 u):=by
 obtain⟨f,d,c,b⟩:=(M6 _ i (lr_ _) a).1 _ _ h;exact⟨u,rfl,c,by unfold A1Q;rw[h],f,d,b⟩
theorem A0F.of_bad{s:List U_}{i j k:Nat}{l:List Nd}(h:P3 s i=.bad k)(a:0<l.length)(c:l.length+2*i<=2*s.length)(b:j+i<=2*s.length+3):A0F s i j (some k) l :=
 ⟨a,by unfold A1Q;rw[h],c,b⟩
theorem A0F.len{s:List U_}{i j:Nat}{a:Option Nat}{l:List Nd}(h:A0F s i j a l):l.length<=2*s.length/\j<=2*s.length+3:=by
 cases a with
 | none=>obtain⟨u,_,_,_,c,b,d⟩:=h;omega
 | some k=>obtain⟨_,_,c,b⟩:=h;omega
theorem A0F.out{s:List U_}{i j:Nat}{l:List Nd}(h:A0F s i j none l)(d:∀c,s[j]?=some c->c≠42/\c≠43/\c≠63):A3v (A1Q s i) s i 0 j none l:=by
 obtain⟨u,rfl,b,a,k,f,g⟩:=h;rw[A0Z u d] at a;exact⟨G0 u,u,a,rfl,by omega,f,by omega⟩
theorem W8{s:List U_}{i:Nat}{c:U_}(h:s[i]?=some c):P3 s i =
 if c=40 then
  match W9 s (i+1) with
  | .bad k=>.bad k
  | .ok t j=>if s[j]?=some 41 then .ok t (j+1) else .bad j
 else if c=91 then
  match P2 s (i+1) with
  | .bad k=>.bad k
  | .ok c j=>.ok (.byte c) j
 else if c=46 then .ok (.byte A2r) (i+1)
 else if c=94 then .ok .bgn (i+1)
 else if c=36 then .ok .fin (i+1)
 else match D4 s i with
  | .bad k=>.bad k
  | .ok b j=>.ok (.byte (o2 zc b)) j:=by
 obtain⟨a,d⟩:=List.getElem?_eq_some_iff.1 h;rw[P3,dif_pos a,d]
 rfl
theorem B01{s:List U_}{i:Nat}(l:s[i]?≠some 40)(g:s[i]?≠some 91)(f:s[i]?≠some 46)(d:s[i]?≠some 94)(a:s[i]?≠some 36):P3 s i=match D4 s i with
 | .bad k=>.bad k
 | .ok b j=>.ok (.byte (o2 zc b)) j:=by
 cases h:s[i]? with
 | none =>
   have:=List.getElem?_eq_none_iff.1 h;rw[P3,dif_neg (by omega)];unfold D4;rw[h]
 | some c =>
   rw[h] at l g f d a;rw[W8 h,if_neg (λe=>l (by rw[e])),if_neg (λe=>g (by rw[e])),if_neg (λe=>f (by rw[e])),if_neg (λe=>d (by rw[e])),if_neg (λe=>a (by rw[e]))]
theorem B0Q{u v:Rx}{op:Int}(e:A0 v=⟨op,zc⟩::A0 u)(h:okT u):okT v:=by
 intro n a;rw[e] at a;rcases List.mem_cons.1 a with rfl|a
 .exact N6
 .exact h n a
theorem A0F.more{s:List U_}{i j:Nat}{l:List Nd}(h:A0F s i j none l)(op:Int)(a:(s[j]?=some 42/\op=5)\/(s[j]?=some 43/\op=6)\/(s[j]?=some 63/\op=7)):A0F s i (j+1) none (⟨op,zc⟩::l):=by
 obtain⟨u,rfl,b,c,g,f,d⟩:=h;rcases a with ⟨a,rfl⟩|⟨a,rfl⟩|⟨a,rfl⟩
 .have:=V0 a
  exact⟨.star u,rfl,B0Q rfl b,by rw[c,A11 u a],by omega,by omega,by simp only[List.length_cons];omega⟩
 .have:=V0 a
  exact⟨.plus u,rfl,B0Q rfl b,by rw[c,A12 u a],by omega,by omega,by simp only[List.length_cons];omega⟩
 .have:=V0 a
  exact⟨.opt u,rfl,B0Q rfl b,by rw[c,A24 u a],by omega,by omega,by simp only[List.length_cons];omega⟩
end Wf
namespace Go.Proofs.YthhcpbfgoofppaaGreatDoor
open Go.RowKit Wf
def P1(w:W_)(b:Nat)(v:V_)(l:List Nd):Prop :=
 ∃g cap a,v=.slice (some ⟨g,0,none⟩) l.length cap/\0<l.length/\l.length<=cap/\cap<=9223372036854775807/\b<=g/\J0 w g 114 a/\∀(j:Nat)(u:V_),(l.flatMap P0)[j]?=some u->a[j]?=some u
theorem P1.of_own{w:W_}{b g cap:Nat}{l:List Nd}(h:w.ownsRow b 114 5 (.slice (some ⟨g,0,none⟩) l.length cap) l.length (l.flatMap P0))(c:0<l.length):P1 w b (.slice (some ⟨g,0,none⟩) l.length cap) l:=by
 rcases h.2 with ⟨h0,_⟩|⟨g',cap',cur,hv,h1,h2,h3,h4,h5,h6⟩
 .cases h0
 .injection hv with e1 e2 e3
  injection e1 with e1
  injection e1 with e1
  subst e1;subst e3;refine⟨g,cap,cur,rfl,c,h3,by unfold maxLen at h4;omega,h1,h2,λj u a=>?_⟩;rw[←Array.getElem?_toList];rw[←h6,List.getElem?_take] at a
  split at a
  .exact a
  .cases a
theorem P1.keep{w w':W_}{a:Nat}{v:V_}{l:List Nd}(h:P1 w a v l)(i:∀q,a<=q->q<w.heap.size->w'.heap[q]?=w.heap[q]?):P1 w' a v l:=by
 obtain⟨g,cap,b,f,n,m,k,d,c,j⟩:=h;exact⟨g,cap,b,f,n,m,k,d,(i g d (J0.lt c)).trans c,j⟩
theorem P1.below{w w':W_}{a:Nat}{v:V_}{l:List Nd}(h:P1 w a v l)(c:Below w.heap.size w w'):P1 w' a v l:=h.keep λq _ b=>c.block q b
theorem P1.grown{w w':W_}{a rb:Nat}{v:V_}{l:List Nd}(h:P1 w a v l)(c:w.grownBy w' (some rb))(d:rb<a):P1 w' a v l:=h.keep λq f b=>c.block q b (λe=>by have:=Option.some.inj e;omega)
theorem P1.lower{w:W_}{c a:Nat}{v:V_}{l:List Nd}(h:P1 w c v l)(m:a<=c):P1 w a v l:=by
 obtain⟨g,cap,b,d,k,j,i,n,f⟩:=h;exact⟨g,cap,b,d,k,j,i,by omega,f⟩
theorem P1.form{w:W_}{b:Nat}{v:V_}{l:List Nd}(h:P1 w b v l):∃g cap,v=.slice (some ⟨g,0,none⟩) l.length cap/\0<l.length/\l.length<=cap/\cap<=9223372036854775807/\b<=g/\g<w.heap.size /\
 ∀(W:W_),W.heap[g]?=w.heap[g]?->∀(j:Nat)(u:V_),(l.flatMap P0)[j]?=some u->W.cell? ((⟨g,0,none⟩:Addr).add j)=some u:=by
 obtain⟨g,cap,a,d,q,p,o,n,c,m⟩:=h;refine⟨g,cap,d,q,p,o,n,J0.lt c,λW i j u f=>?_⟩;have k:J0 W g 114 a:=i.trans c;rw[Z5,Nat.zero_add,k.cell];exact m j u f
theorem A2e{w:W_}{g base:Nat}{a b c d e:V_}(h:J0 w g 114 #[a,b,c,d,e])(f:base<=g):w.ownsRow base 114 5 (.slice (some ⟨g,0,none⟩) 1 1) 1 [a,b,c,d,e] :=
 ⟨rfl,.inr ⟨g,1,_,rfl,f,h,by omega,by unfold maxLen;omega,rfl,rfl⟩⟩
theorem P1.node{w:W_}{g f:Nat}{op:Int}{d c b a:Nat}(h:J0 w g 114 #[.int .i64 op,.int .u64 d,.int .u64 c,.int .u64 b,.int .u64 a])(i:f<=g):P1 w f (.slice (some ⟨g,0,none⟩) 1 1) [⟨op,d,c,b,a⟩] :=
 P1.of_own (l:=[⟨op,d,c,b,a⟩]) (A2e h i) (by simp)
theorem r9(W:W_)(B:Nat)(h:W.heap.size=B){b:Nat}(a:b<=B)(op:Int)(g f d c:Nat):P1 (W.alloc (.cells #[.int .i64 op,.int .u64 g,.int .u64 f,.int .u64 d,.int .u64 c] 114)) b (.slice (some ⟨B,0,none⟩) 1 1) [⟨op,g,f,d,c⟩]:=by
 subst h;exact P1.node (J0.new _ _ _) a
theorem RW.step{w0 w:W_}{rb i:Nat}{a:Option Nat}{s:B_}(h:RW w0 rb s i a w):RW w0 rb s (i+1) a (w.setCell ⟨rb,1,none⟩ (.int .i64 ((i:Int)+1))):=by
 have:=h.at (i+1)
 push_cast at this
 exact this
theorem P1.step{w:W_}{a rb:Nat}{v u:V_}{l:List Nd}{o:Nat}(h:P1 w a v l)(b:rb<a):P1 (w.setCell ⟨rb,o,none⟩ u) a v l:=h.keep λq c _=>Below.heap_setCell w _ _ q (by show q≠rb;omega)
theorem RW.alloc{w0 w:W_}{rb i:Nat}{a:Option Nat}{s:B_}(h:RW w0 rb s i a w)(o:Obj):RW w0 rb s i a (w.alloc o):=h.below (br_.alloc (lr_ _) o)
theorem RW.app{w0 w w':W_}{rb i b:Nat}{c:Option Nat}{s:B_}(h:RW w0 rb s i c w)(a:w.grownBy w' (some b))(j:w0.heap.size<=b):RW w0 rb s i c w':=by
 have hlt:=h.lt;have d:=h.grow.size
 exact⟨(a.block rb (J0.lt h.par) (λe=>by have:=Option.some.inj e;omega)).trans h.par,
  ⟨a.os.trans h.grow.os,a.tape.trans h.grow.tape,a.output.trans h.grow.output,Nat.le_trans d a.size,λq f g=>(a.block q (by omega) (λe=>by have:=Option.some.inj e;omega)).trans (h.grow.block q f g)⟩,h.lt⟩
theorem B46{α:Type}{a b:α}{o:Option U_}{x:U_}(h:o=some x):(if o=some x then a else b)=a:=if_pos h
def A3s(r:PR Rx)(rb:Nat)(s:B_)(i m:Nat)(w:W_)(e:Ending)(w':W_):Prop :=
 ∃g cap l j a,e=.returned (.slice (some ⟨g,0,none⟩) l.length cap)/\P1 w' w.heap.size (.slice (some ⟨g,0,none⟩) l.length cap) l/\RW w rb s j a w'/\A3v r s.data.toList i m j a l
theorem B60{rb:Nat}{s:B_}{i:Nat}(w:W_)(h:RW w rb s i none w)(hs:s.size<=200)(aH:i<s.size)(aO:∀W,RW W rb s (i+1) none W->i+1<=s.size->Calls prog 96 #[.pointer (some ⟨rb,0,none⟩)] W (A3s (W9 s.data.toList (i+1)) rb s (i+1) 1 W)):
 Calls prog 134 #[.pointer (some ⟨rb,0,none⟩)] w (A3s (A1Q s.data.toList i) rb s i 0 w):=by
 obtain⟨L,hL⟩:∃L,L=s.data.toList:=⟨_,rfl⟩
 have bh:L.length=s.size:=by rw[hL];simp
 have n:=hid bh;have M:Hid (∀(c:U_)(j:Nat) W,L[j]?=some c->RW w rb s j none W->Calls prog 135 #[.pointer (some ⟨rb,0,none⟩),.int .u8 c.toNat] W (Q5 true W)):=hid λc j W y hw=>A2Z W hw.here hs (by rw[←hL];exact y)
 have f:Hid (∀(c:U_)(j:Nat) W,j<=s.size->L[j]?≠some c->RW w rb s j none W->Calls prog 135 #[.pointer (some ⟨rb,0,none⟩),.int .u8 c.toNat] W (Q5 false W)):=hid λc j W hj y hw=>A3P W hw.here hs hj (by rw[←hL];exact y)
 have bw:Hid (∀(c j k:Nat) W,RW w rb s j (some k) W->Calls prog 135 #[.pointer (some ⟨rb,0,none⟩),.int .u8 c] W (Q5 false W)):=hid λc j k W hw=>A2a c W hw.here
 have bA:Hid (∀(j k:Nat) W,RW w rb s j none W->Calls prog 97 #[.pointer (some ⟨rb,0,none⟩),.int .i64 k] W (D5 rb s j (some k) W)):=hid λj k W hw=>A0d W hw.here k
 have bB:Hid (∀(j k k':Nat) W,RW w rb s j (some k) W->Calls prog 97 #[.pointer (some ⟨rb,0,none⟩),.int .i64 k'] W (D5 rb s j (some k) W)):=hid λj k k' W hw=>B2g W hw.here k'
 have HP:=hid h;have au:=h.lt;have hi:i<=s.size:=by omega
 have hi':i<=L.length:=by omega
 unfold Q5 at M f bw;unfold D5 at bA bB;obtain⟨i0,aH,aT,aS,aR⟩:=info_parts A4B;have aX:=hid λW (hw:RW w rb s (i+1) none W) (E:i+1<=s.size)=>aO W hw.here E
 unfold A3s at aX;have aW:=hid λW (hw:RW w rb s (i+1) none W) (E:i+1<=s.size)=>B9u W hw.here hs E
 have V:=hid λW (hw:RW w rb s i none W)=>B0C W hw.here hs hi
 have bz:=hid λW=>A9d ⟨#[10]⟩ W (by decide)
 have bx:Hid (∀(c0 c1 c2 c3:Nat)(W:W_),P5 (c0,c1,c2,c3)->Calls prog 92 #[.agg #[.int .u64 c0,.int .u64 c1,.int .u64 c2,.int .u64 c3]] W (M5 (p8 (c0,c1,c2,c3)) W)):=hid λc0 c1 c2 c3 W E=>A2N c0 c1 c2 c3 W E
 have bv:Hid (∀(a:Nat)(W:W_),a<256->Calls prog 132 #[.agg #[.int .u64 0,.int .u64 0,.int .u64 0,.int .u64 0],.int .i64 a] W (M5 (o2 zc a) W)):=hid λa W E=>A1S 0 0 0 0 a W N6 E
 rw[←hL] at aW V;unfold A7C at aW;unfold A09 O6 at V;unfold M5 at bz bx bv;unfold A3s;rw[←hL] at aX ⊢;clear hL bh h aO;go_enter func134,ntmps134
 go_upto_block 0 with fail
 go_cut [3] (λv3 wx=>∃(j:Nat)(l:List Nd) (r:Option Nat),Hid (P1 wx w.heap.size v3 l)/\Hid (RW w rb s j r wx)/\Hid (A0F L i j r l))
 case first =>
  by_cases y:L[i]?=some 40
  .have B:=hid y
   clear y;go_wp2_with fail;refine(M.out 40 i _ B.out HP.out).mono ?_;rintro e z⟨rfl,b⟩;have Z:=hid (HP.out.below b);clear b;have aq:i+1<=s.size:=by have:=V0 B.out;rw[n.out] at this;omega
   have J:=Z.out.c0;have H:=Z.out.c1;have G:=Z.out.f1;go_wp2_with fail;clear J H G;have HZ:=hid Z.out.step;refine(aX.out _ HZ.out aq).mono ?_;rintro e w1⟨g,cap,l,j,r,rfl,aL,S,ho⟩;have aK:=HZ.out.grow.size;have A:=hid (aL.lower aK);have d:=hid (HZ.out.trans S);have R:=hid ho;clear aL S ho;cases r with
   | some k =>
     have ce:j<=2*s.size+3:=by have:=R.out.2.2.2;rw[n.out] at this;omega
     have q2:_=some (Value.int .i64 ((k:Nat):Int)):=d.out.c2;have dk:decide (((k:Nat):Int)<0)=false:=by simp
     go_wp2_with fail;refine(bw.out 41 j k _ d.out).mono ?_;rintro e x1⟨rfl,b⟩;have F:=hid (A.out.below b);have m:=hid (d.out.below b);clear b q2;have J:=m.out.c0;have H:=m.out.c1;have G:=m.out.f1;go_wp2_with fail;refine(bB.out j k j _ m.out).mono ?_;rintro e x2⟨rfl,ag⟩;have ai:=hid (F.out.grown ag.grow au);have q:=hid (m.out.trans ag);clear J H G ag;have J:=q.out.c0;have H:=q.out.c1;have G:=q.out.f1;go_wp2_with fail
     go_meet
     have T:P3 L i=.bad k:=by rw[W8 B.out,if_pos rfl,R.out.2.1]
     have E:=R.out.1;have h2:=R.out.2.2.1;have h3:=R.out.2.2.2;exact⟨j+1,l,some k,hid (ai.out.step au),hid q.out.step,hid (A0F.of_bad T E (by omega) (by omega))⟩
   | none =>
     obtain⟨t,hr,hl,E,h2,h3⟩:=R.out.2;have aw:=R.out.1;have HT:Hid (W9 L (i+1)=.ok t j/\l=A0 t):=hid ⟨hr,hl⟩;have D:j<=s.size:=by rw[n.out] at h2;exact h2
     clear hr hl R;by_cases h41:L[j]?=some 41
     .go_wp2_with fail
      refine(M.out 41 j _ h41 d.out).mono ?_;rintro e x1⟨rfl,b⟩;have F:=hid (A.out.below b);have m:=hid (d.out.below b);clear b;have J:=m.out.c0;have H:=m.out.c1;have G:=m.out.f1;go_wp2_with fail
      go_meet
      have T:P3 L i=.ok t (j+1):=by rw[W8 B.out,if_pos rfl,HT.out.1];exact B46 h41
      exact⟨j+1,l,none,hid (F.out.step au),hid m.out.step,hid (by rw[HT.out.2];exact A0F.of_ok (by rw[n.out];omega) T)⟩
     .go_wp2_with fail
      refine(f.out 41 j _ D h41 d.out).mono ?_;rintro e x1⟨rfl,b⟩;have F:=hid (A.out.below b);have m:=hid (d.out.below b);clear b;have J:=m.out.c0;have H:=m.out.c1;have G:=m.out.f1;go_wp2_with fail;refine(bA.out j j _ m.out).mono ?_;rintro e x2⟨rfl,ag⟩;have ai:=hid (F.out.grown ag.grow au);have q:=hid (m.out.trans ag);clear J H G ag;have J:=q.out.c0;have H:=q.out.c1;have G:=q.out.f1;go_wp2_with fail
      go_meet
      have T:P3 L i=.bad j:=by rw[W8 B.out,if_pos rfl,HT.out.1];simp only[if_neg h41]
      have h3':l.length+2*(i+1)<=2*j+1:=h3;exact⟨j+1,l,some j,hid (ai.out.step au),hid q.out.step,hid (A0F.of_bad T aw (by rw[n.out];omega) (by rw[n.out];omega))⟩
  .have bs:=hid y
   clear y;by_cases y:L[i]?=some 91
   .have B:=hid y
    clear y;go_wp2_with fail;refine(f.out 40 i _ hi (by rw[B.out];decide) HP.out).mono ?_;rintro e y1⟨rfl,b⟩;have Y1:=hid (HP.out.below b);clear b;go_wp2_with fail;refine(M.out 91 i _ B.out Y1.out).mono ?_;rintro e z⟨rfl,b⟩;have Z:=hid (Y1.out.below b);clear b;have aq:i+1<=s.size:=by have:=V0 B.out;rw[n.out] at this;omega
    have J:=Z.out.c0;have H:=Z.out.c1;have G:=Z.out.f1;go_wp2_with fail;clear J H G;have HZ:=hid Z.out.step;refine(aW.out _ HZ.out aq).mono ?_;rintro e w1⟨d0,d1,d2,d3,j,r,rfl,cb,S,ho⟩;have aK:=(HZ.out.trans S).grow.size;have d:=hid (HZ.out.trans S);have R:=hid ho;clear S ho;go_wp2_with fail
    go_meet
    rcases R.out with ⟨rfl,hr,hj1,ax⟩|⟨k,rfl,hr,hj1,ax⟩
    .have T:P3 L i=.ok (.byte (d0,d1,d2,d3)) j:=by rw[W8 B.out,if_neg (by decide),if_pos rfl,hr]
     exact⟨j,[⟨1,d0,d1,d2,d3⟩],none,hid (r9 _ _ (by simp) (by omega) 1 d0 d1 d2 d3),hid ((d.out.alloc _).alloc _),hid (A0F.of_ok (by rw[n.out];omega) T)⟩
    .have T:P3 L i=.bad k:=by rw[W8 B.out,if_neg (by decide),if_pos rfl,hr]
     exact⟨j,[⟨1,d0,d1,d2,d3⟩],some k,hid (r9 _ _ (by simp) (by omega) 1 d0 d1 d2 d3),hid ((d.out.alloc _).alloc _),hid (A0F.of_bad T (by simp) (by simp;rw[n.out];omega) (by rw[n.out];omega))⟩
   .have bq:=hid y
    clear y;by_cases y:L[i]?=some 46
    .have B:=hid y
     clear y;go_wp2_with fail;refine(f.out 40 i _ hi (by rw[B.out];decide) HP.out).mono ?_;rintro e y1⟨rfl,b⟩;have Y1:=hid (HP.out.below b);clear b;go_wp2_with fail;refine(f.out 91 i _ hi (by rw[B.out];decide) Y1.out).mono ?_;rintro e y2⟨rfl,b⟩;have Y2:=hid (Y1.out.below b);clear b;go_wp2_with fail;refine(M.out 46 i _ B.out Y2.out).mono ?_;rintro e z⟨rfl,b⟩;have Z:=hid (Y2.out.below b);clear b;have aq:i+1<=s.size:=by have:=V0 B.out;rw[n.out] at this;omega
     have J:=Z.out.c0;have H:=Z.out.c1;have G:=Z.out.f1;go_wp2_with fail;clear J H G;have HZ:=hid Z.out.step;refine(bz.out _).mono ?_;rintro e w1⟨d0,d1,d2,d3,rfl,hd,bg⟩;have bN:=hid (HZ.out.below bg);have HD:=hid hd;have be:P5 (d0,d1,d2,d3):=by rw[hd];exact A7R _ _ N6
     clear bg hd;go_wp2_with fail;refine(bx.out d0 d1 d2 d3 _ be).mono ?_;rintro e w2⟨f0,f1,f2,f3,rfl,hf,ay⟩;have bu:=hid (bN.out.below ay);have HF:Hid ((f0,f1,f2,f3)=A2r):=hid (by rw[hf,HD.out];rfl);have aj:=bu.out.grow.size;clear ay hf;go_wp2_with fail
     go_meet
     have T:P3 L i=.ok (.byte (f0,f1,f2,f3)) (i+1):=by rw[W8 B.out,if_neg (by decide),if_neg (by decide),if_pos rfl,HF.out]
     exact⟨i+1,[⟨1,f0,f1,f2,f3⟩],none,hid (r9 _ _ rfl aj 1 f0 f1 f2 f3),hid (bu.out.alloc _),hid (A0F.of_ok (by rw[n.out];omega) T)⟩
    .have br:=hid y
     clear y;by_cases y:L[i]?=some 94
     .have B:=hid y
      clear y;go_wp2_with fail;refine(f.out 40 i _ hi (by rw[B.out];decide) HP.out).mono ?_;rintro e y1⟨rfl,b⟩;have Y1:=hid (HP.out.below b);clear b;go_wp2_with fail;refine(f.out 91 i _ hi (by rw[B.out];decide) Y1.out).mono ?_;rintro e y2⟨rfl,b⟩;have Y2:=hid (Y1.out.below b);clear b;go_wp2_with fail;refine(f.out 46 i _ hi (by rw[B.out];decide) Y2.out).mono ?_;rintro e y3⟨rfl,b⟩;have Y3:=hid (Y2.out.below b);clear b;go_wp2_with fail;refine(M.out 94 i _ B.out Y3.out).mono ?_;rintro e z⟨rfl,b⟩;have Z:=hid (Y3.out.below b);clear b;have aq:i+1<=s.size:=by have:=V0 B.out;rw[n.out] at this;omega
      have J:=Z.out.c0;have H:=Z.out.c1;have G:=Z.out.f1;have bd:=Z.out.grow.size;go_wp2_with fail
      go_meet
      have T:P3 L i=.ok .bgn (i+1):=by rw[W8 B.out,if_neg (by decide),if_neg (by decide),if_neg (by decide),if_pos rfl]
      exact⟨i+1,[⟨8,0,0,0,0⟩],none,hid (r9 _ _ (by simp) (by omega) 8 0 0 0 0),hid (Z.out.step.alloc _),hid (A0F.of_ok (by rw[n.out];omega) T)⟩
     .have bp:=hid y
      clear y;by_cases y:L[i]?=some 36
      .have B:=hid y
       clear y;go_wp2_with fail;refine(f.out 40 i _ hi (by rw[B.out];decide) HP.out).mono ?_;rintro e y1⟨rfl,b⟩;have Y1:=hid (HP.out.below b);clear b;go_wp2_with fail;refine(f.out 91 i _ hi (by rw[B.out];decide) Y1.out).mono ?_;rintro e y2⟨rfl,b⟩;have Y2:=hid (Y1.out.below b);clear b;go_wp2_with fail;refine(f.out 46 i _ hi (by rw[B.out];decide) Y2.out).mono ?_;rintro e y3⟨rfl,b⟩;have Y3:=hid (Y2.out.below b);clear b;go_wp2_with fail;refine(f.out 94 i _ hi (by rw[B.out];decide) Y3.out).mono ?_;rintro e y4⟨rfl,b⟩;have Y4:=hid (Y3.out.below b);clear b;go_wp2_with fail;refine(M.out 36 i _ B.out Y4.out).mono ?_;rintro e z⟨rfl,b⟩;have Z:=hid (Y4.out.below b);clear b;have aq:i+1<=s.size:=by have:=V0 B.out;rw[n.out] at this;omega
       have J:=Z.out.c0;have H:=Z.out.c1;have G:=Z.out.f1;have bd:=Z.out.grow.size;go_wp2_with fail
       go_meet
       have T:P3 L i=.ok .fin (i+1):=by rw[W8 B.out,if_neg (by decide),if_neg (by decide),if_neg (by decide),if_neg (by decide),if_pos rfl]
       exact⟨i+1,[⟨9,0,0,0,0⟩],none,hid (r9 _ _ (by simp) (by omega) 9 0 0 0 0),hid (Z.out.step.alloc _),hid (A0F.of_ok (by rw[n.out];omega) T)⟩
      .have bt:=hid y
       clear y;go_wp2_with fail;refine(f.out 40 i _ hi bs.out HP.out).mono ?_;rintro e y1⟨rfl,b⟩;have Y1:=hid (HP.out.below b);clear b;go_wp2_with fail;refine(f.out 91 i _ hi bq.out Y1.out).mono ?_;rintro e y2⟨rfl,b⟩;have Y2:=hid (Y1.out.below b);clear b;go_wp2_with fail;refine(f.out 46 i _ hi br.out Y2.out).mono ?_;rintro e y3⟨rfl,b⟩;have Y3:=hid (Y2.out.below b);clear b;go_wp2_with fail;refine(f.out 94 i _ hi bp.out Y3.out).mono ?_;rintro e y4⟨rfl,b⟩;have Y4:=hid (Y3.out.below b);clear b;go_wp2_with fail;refine(f.out 36 i _ hi bt.out Y4.out).mono ?_;rintro e y5⟨rfl,b⟩;have Y5:=hid (Y4.out.below b);clear b;go_wp2_with fail;refine(V.out _ Y5.out).mono ?_;rintro e w1 aM
       have hone':∃a j r,e=.returned (.int .i64 ((a:Nat):Int))/\a<256/\RW y5 rb s j r w1/\((r=none/\D4 L i=.ok a j)\/(∃k,r=some k/\D4 L i=.bad k/\j<=i+1)):=by
        rcases aM with ⟨a,j,E,h2,h3,h4,h5,h6⟩|⟨k,a,j,E,h2,h3,h4,h5,h6⟩
        .exact⟨a,j,none,h5,h2,h6,.inl ⟨rfl,E⟩⟩
        .exact⟨a,j,some k,h5,h2,h6,.inr ⟨k,rfl,E,h4⟩⟩
       obtain⟨a,j,r,rfl,ha,S,ho⟩:=hone';have d:=hid (Y5.out.trans S);have R:=hid ho;clear aM S ho;go_wp2_with fail;refine(bv.out a _ ha).mono ?_;rintro e w2⟨d0,d1,d2,d3,rfl,hd,ay⟩;have HD:=hid hd;have q:=hid (d.out.below ay);have aj:=q.out.grow.size;clear hd ay;go_wp2_with fail
       go_meet
       have bi:=B01 bs.out bq.out br.out bp.out bt.out;rcases R.out with ⟨rfl,hr⟩|⟨k,rfl,hr,hj1⟩
       .have T:P3 L i=.ok (.byte (d0,d1,d2,d3)) j:=by rw[bi,hr,HD.out]
        exact⟨j,[⟨1,d0,d1,d2,d3⟩],none,hid (r9 _ _ rfl aj 1 d0 d1 d2 d3),hid (q.out.alloc _),hid (A0F.of_ok (by rw[n.out];omega) T)⟩
       .have T:P3 L i=.bad k:=by rw[bi,hr]
        exact⟨j,[⟨1,d0,d1,d2,d3⟩],some k,hid (r9 _ _ rfl aj 1 d0 d1 d2 d3),hid (q.out.alloc _),hid (A0F.of_bad T (by simp) (by simp;rw[n.out];omega) (by rw[n.out];omega))⟩
 case rest =>
  obtain⟨j,l,r,A,d,C⟩:=hcut;go_wp2_with fail
  go_loopg [3] (s.size+2) (λgk v3 wr=>∃(j:Nat)(l:List Nd) (r:Option Nat),Hid (P1 wr w.heap.size v3 l)/\Hid (RW w rb s j r wr)/\Hid (A0F L i j r l)/\Hid (A4J r (s.size - j)<gk))
  case atStart=>exact⟨_,_,_,A,d,C,hid (by unfold A4J;first | omega | (split <;> omega))⟩
  case round =>
   clear d A C;obtain⟨j,l,r,A,d,C,HG⟩:=hrel;obtain⟨g,cap,rfl,aw,cd,bX,cc,aU,bf⟩:=A.out.form;have Q:=C.out.len;rw[n.out] at Q;obtain⟨Q,ax⟩:=Q;have aV:=hid bf;clear bf;cases r with
   | some k =>
     have q2:_=some (Value.int .i64 ((k:Nat):Int)):=d.out.c2;have dk:decide (((k:Nat):Int)<0)=false:=by simp
     go_wp2_with fail;go_ret;exact⟨g,cap,l,j,some k,rfl,A.out,d.out,C.out⟩
   | none =>
     have q2:_=some (Value.int .i64 (-1)):=d.out.c2;have J:=d.out.c0;have H:=d.out.c1;have G:=d.out.f1
     have D:j<=s.size:=by
      obtain⟨_,_,_,_,_,h2,_⟩:=C.out;rw[n.out] at h2;exact h2
     by_cases h42:L[j]?=some 42
     .go_wp2_with fail
      refine(M.out 42 j _ h42 d.out).mono ?_;rintro e x1⟨rfl,b⟩;have H1:=hid (d.out.below b);have P:=hid b;clear b;go_wp2_with fail;refine(f.out 43 j _ D (by rw[h42];decide) H1.out).mono ?_;rintro e x2⟨rfl,b⟩;have H2:=hid (H1.out.below b);have O:=hid b;clear b;go_wp2_with fail;refine(f.out 63 j _ D (by rw[h42];decide) H2.out).mono ?_;rintro e x3⟨rfl,b⟩;have X:=hid (H2.out.below b);have N:=hid b;clear b;clear J H G q2;have J:=X.out.c0;have H:=X.out.c1;have G:=X.out.f1;have Y:=X.out.grow.size
      have R:Hid ((((x3.setCell ⟨rb,1,none⟩ (.int .i64 ((j:Int)+1))).alloc (.cells #[.int .i64 5,.int .u64 0,.int .u64 0,.int .u64 0,.int .u64 0] 114))).ownsRow w.heap.size 114 5 (.slice (some ⟨x3.heap.size,0,none⟩) 1 1) 1 [.int .i64 5,.int .u64 0,.int .u64 0,.int .u64 0,.int .u64 0]):=hid (by
       have hB:=J0.new (x3.setCell ⟨rb,1,none⟩ (.int .i64 ((j:Int)+1))) 114 #[.int .i64 5,.int .u64 0,.int .u64 0,.int .u64 0,.int .u64 0];rw[World.size_setCell] at hB;exact A2e hB Y)
      have ab:=hid (aV.out ((x3.setCell ⟨rb,1,none⟩ (.int .i64 ((j:Int)+1))).alloc (.cells #[.int .i64 5,.int .u64 0,.int .u64 0,.int .u64 0,.int .u64 0] 114)) (by
       have s1:=P.out.size;have s2:=O.out.size;have s3:=N.out.size;exact(Below.heap_alloc _ _ _ (by simp;omega)).trans ((Below.heap_setCell _ _ _ _ (by show g≠rb;omega)).trans ((N.out.block g (by omega)).trans ((O.out.block g (by omega)).trans (P.out.block g aU))))))
      have aD:Hid ((l.flatMap P0).length=l.length*5):=hid (N1 l);have V:=hid (o7 l);have av:l.length<=400:=by omega
      clear Q ax
      go_wp2_with (at_builtin;refine wpList_append_lies _ rfl (.tmp 138) (.tmp 139) _ rfl w.heap.size 114 i0 _ 5 40 underlying73 aH aT aS aR rfl (by omega) _ 1 _ rfl R.out ⟨g,0,none⟩ l.length _ (l.flatMap P0) rfl aD.out ab.out V.out aw (by unfold maxLen;omega) (by omega) (by simp;omega) _ rfl ?_)
      intro g5 aa x5 o p _ _
      have aC:Hid (P1 x5 w.heap.size (.slice (some ⟨g5,0,none⟩) (1+l.length) aa) (⟨5,zc⟩::l)):=hid (by
       have e:1+l.length=(⟨5,zc⟩::l:List Nd).length:=by simp;omega
       rw[e] at o ⊢;exact P1.of_own o (by simp))
      have aA:Hid (RW w rb s (j+1) none x5):=hid ((X.out.step.alloc _).app p Y);have aB:Hid (A0F L i (j+1) none (⟨5,zc⟩::l)):=hid (C.out.more 5 (.inl ⟨h42,rfl⟩))
      have ac:Hid (A4J none (s.size - (j+1))<gk - 1/\0<gk):=hid (by
       have E:=HG.out;have h2:=V0 h42;rw[n.out] at h2;unfold A4J at E ⊢;dsimp only at E ⊢;omega)
      clear o p HG C;go_wp2_with fail
      go_roundg (gk - 1)
      case rel=>exact⟨j+1,⟨5,zc⟩::l,none,aC,aA,aB,hid ac.out.1⟩
      all_goals (have:=ac.out.2;omega)
     .by_cases h43:L[j]?=some 43
      .go_wp2_with fail
       refine(f.out 42 j _ D h42 d.out).mono ?_;rintro e x1⟨rfl,b⟩;have H1:=hid (d.out.below b);have P:=hid b;clear b;go_wp2_with fail;refine(M.out 43 j _ h43 H1.out).mono ?_;rintro e x2⟨rfl,b⟩;have H2:=hid (H1.out.below b);have O:=hid b;clear b;go_wp2_with fail;refine(f.out 63 j _ D (by rw[h43];decide) H2.out).mono ?_;rintro e x3⟨rfl,b⟩;have X:=hid (H2.out.below b);have N:=hid b;clear b;clear J H G q2;have J:=X.out.c0;have H:=X.out.c1;have G:=X.out.f1;have Y:=X.out.grow.size
       have R:Hid ((((x3.setCell ⟨rb,1,none⟩ (.int .i64 ((j:Int)+1))).alloc (.cells #[.int .i64 6,.int .u64 0,.int .u64 0,.int .u64 0,.int .u64 0] 114))).ownsRow w.heap.size 114 5 (.slice (some ⟨x3.heap.size,0,none⟩) 1 1) 1 [.int .i64 6,.int .u64 0,.int .u64 0,.int .u64 0,.int .u64 0]):=hid (by
        have hB:=J0.new (x3.setCell ⟨rb,1,none⟩ (.int .i64 ((j:Int)+1))) 114 #[.int .i64 6,.int .u64 0,.int .u64 0,.int .u64 0,.int .u64 0];rw[World.size_setCell] at hB;exact A2e hB Y)
       have ab:=hid (aV.out ((x3.setCell ⟨rb,1,none⟩ (.int .i64 ((j:Int)+1))).alloc (.cells #[.int .i64 6,.int .u64 0,.int .u64 0,.int .u64 0,.int .u64 0] 114)) (by
        have s1:=P.out.size;have s2:=O.out.size;have s3:=N.out.size;exact(Below.heap_alloc _ _ _ (by simp;omega)).trans ((Below.heap_setCell _ _ _ _ (by show g≠rb;omega)).trans ((N.out.block g (by omega)).trans ((O.out.block g (by omega)).trans (P.out.block g aU))))))
       have aD:Hid ((l.flatMap P0).length=l.length*5):=hid (N1 l);have V:=hid (o7 l);have av:l.length<=400:=by omega
       clear Q ax
       go_wp2_with (at_builtin;refine wpList_append_lies _ rfl (.tmp 138) (.tmp 139) _ rfl w.heap.size 114 i0 _ 5 40 underlying73 aH aT aS aR rfl (by omega) _ 1 _ rfl R.out ⟨g,0,none⟩ l.length _ (l.flatMap P0) rfl aD.out ab.out V.out aw (by unfold maxLen;omega) (by omega) (by simp;omega) _ rfl ?_)
       intro g5 aa x5 o p _ _
       have aC:Hid (P1 x5 w.heap.size (.slice (some ⟨g5,0,none⟩) (1+l.length) aa) (⟨6,zc⟩::l)):=hid (by
        have e:1+l.length=(⟨6,zc⟩::l:List Nd).length:=by simp;omega
        rw[e] at o ⊢;exact P1.of_own o (by simp))
       have aA:Hid (RW w rb s (j+1) none x5):=hid ((X.out.step.alloc _).app p Y);have aB:Hid (A0F L i (j+1) none (⟨6,zc⟩::l)):=hid (C.out.more 6 (.inr (.inl ⟨h43,rfl⟩)))
       have ac:Hid (A4J none (s.size - (j+1))<gk - 1/\0<gk):=hid (by
        have E:=HG.out;have h2:=V0 h43;rw[n.out] at h2;unfold A4J at E ⊢;dsimp only at E ⊢;omega)
       clear o p HG C;go_wp2_with fail
       go_roundg (gk - 1)
       case rel=>exact⟨j+1,⟨6,zc⟩::l,none,aC,aA,aB,hid ac.out.1⟩
       all_goals (have:=ac.out.2;omega)
      .by_cases h63:L[j]?=some 63
       .go_wp2_with fail
        refine(f.out 42 j _ D h42 d.out).mono ?_;rintro e x1⟨rfl,b⟩;have H1:=hid (d.out.below b);have P:=hid b;clear b;go_wp2_with fail;refine(f.out 43 j _ D h43 H1.out).mono ?_;rintro e x2⟨rfl,b⟩;have H2:=hid (H1.out.below b);have O:=hid b;clear b;go_wp2_with fail;refine(M.out 63 j _ h63 H2.out).mono ?_;rintro e x3⟨rfl,b⟩;have X:=hid (H2.out.below b);have N:=hid b;clear b;clear J H G q2;have J:=X.out.c0;have H:=X.out.c1;have G:=X.out.f1;have Y:=X.out.grow.size
        have R:Hid ((((x3.setCell ⟨rb,1,none⟩ (.int .i64 ((j:Int)+1))).alloc (.cells #[.int .i64 7,.int .u64 0,.int .u64 0,.int .u64 0,.int .u64 0] 114))).ownsRow w.heap.size 114 5 (.slice (some ⟨x3.heap.size,0,none⟩) 1 1) 1 [.int .i64 7,.int .u64 0,.int .u64 0,.int .u64 0,.int .u64 0]):=hid (by
         have hB:=J0.new (x3.setCell ⟨rb,1,none⟩ (.int .i64 ((j:Int)+1))) 114 #[.int .i64 7,.int .u64 0,.int .u64 0,.int .u64 0,.int .u64 0];rw[World.size_setCell] at hB;exact A2e hB Y)
        have ab:=hid (aV.out ((x3.setCell ⟨rb,1,none⟩ (.int .i64 ((j:Int)+1))).alloc (.cells #[.int .i64 7,.int .u64 0,.int .u64 0,.int .u64 0,.int .u64 0] 114)) (by
         have s1:=P.out.size;have s2:=O.out.size;have s3:=N.out.size;exact(Below.heap_alloc _ _ _ (by simp;omega)).trans ((Below.heap_setCell _ _ _ _ (by show g≠rb;omega)).trans ((N.out.block g (by omega)).trans ((O.out.block g (by omega)).trans (P.out.block g aU))))))
        have aD:Hid ((l.flatMap P0).length=l.length*5):=hid (N1 l);have V:=hid (o7 l);have av:l.length<=400:=by omega
        clear Q ax
        go_wp2_with (at_builtin;refine wpList_append_lies _ rfl (.tmp 138) (.tmp 139) _ rfl w.heap.size 114 i0 _ 5 40 underlying73 aH aT aS aR rfl (by omega) _ 1 _ rfl R.out ⟨g,0,none⟩ l.length _ (l.flatMap P0) rfl aD.out ab.out V.out aw (by unfold maxLen;omega) (by omega) (by simp;omega) _ rfl ?_)
        intro g5 aa x5 o p _ _
        have aC:Hid (P1 x5 w.heap.size (.slice (some ⟨g5,0,none⟩) (1+l.length) aa) (⟨7,zc⟩::l)):=hid (by
         have e:1+l.length=(⟨7,zc⟩::l:List Nd).length:=by simp;omega
         rw[e] at o ⊢;exact P1.of_own o (by simp))
        have aA:Hid (RW w rb s (j+1) none x5):=hid ((X.out.step.alloc _).app p Y);have aB:Hid (A0F L i (j+1) none (⟨7,zc⟩::l)):=hid (C.out.more 7 (.inr (.inr ⟨h63,rfl⟩)))
        have ac:Hid (A4J none (s.size - (j+1))<gk - 1/\0<gk):=hid (by
         have E:=HG.out;have h2:=V0 h63;rw[n.out] at h2;unfold A4J at E ⊢;dsimp only at E ⊢;omega)
        clear o p HG C;go_wp2_with fail
        go_roundg (gk - 1)
        case rel=>exact⟨j+1,⟨7,zc⟩::l,none,aC,aA,aB,hid ac.out.1⟩
        all_goals (have:=ac.out.2;omega)
       .go_wp2_with fail
        refine(f.out 42 j _ D h42 d.out).mono ?_;rintro e x1⟨rfl,b⟩;have H1:=hid (d.out.below b);have P:=hid b;clear b;go_wp2_with fail;refine(f.out 43 j _ D h43 H1.out).mono ?_;rintro e x2⟨rfl,b⟩;have H2:=hid (H1.out.below b);have O:=hid b;clear b;go_wp2_with fail;refine(f.out 63 j _ D h63 H2.out).mono ?_;rintro e x3⟨rfl,b⟩;have X:=hid (H2.out.below b);have N:=hid b;clear b;have R:Hid (A3v (A1Q L i) L i 0 j none l):=hid (C.out.out λc y=>⟨λe=>h42 (by rw[y,e]),λe=>h43 (by rw[y,e]),λe=>h63 (by rw[y,e])⟩);have bP:Hid (P1 x3 w.heap.size (.slice (some ⟨g,0,none⟩) l.length cap) l):=hid (((A.out.below P.out).below O.out).below N.out);go_wp2_with fail;go_ret;exact⟨g,cap,l,j,none,rfl,bP.out,X.out,R.out⟩
end Go.Proofs.YthhcpbfgoofppaaGreatDoor
namespace Wf
theorem c8.len{s:List U_}{i j:Nat}{b:Option Nat}{a:List (List Nd)}(h:c8 s i j b a):Z7 a<=2*s.length+1/\j<=2*s.length+3:=by
 obtain⟨_,_,h⟩:=h;cases b with
 | none=>obtain⟨f,_,_,d,c,g⟩:=h;omega
 | some k=>obtain⟨_,_,d,c⟩:=h;omega
theorem A2M.len{s:List U_}{i j:Nat}{b:Option Nat}{a:List (List Nd)}(h:A2M s i j b a):Z7 a<=2*s.length+2/\0<a.length:=by
 obtain⟨_,_,c,h⟩:=h;refine⟨?_,List.length_pos_iff.2 c⟩;cases b with
 | none=>obtain⟨g,_,_,f,d,l⟩:=h;omega
 | some k=>obtain⟨_,f,d⟩:=h;omega
end Wf
namespace Go.Proofs.YthhcpbfgoofppaaGreatDoor
open Go.RowKit Wf
theorem A5Z:(prog.info? 73).map (λi=>(i.zero,i.size,i.bytes))=some (some (.slice none 0 0),1,24):=by kernel_rfl
def r6(w:W_)(c:Nat)(b:List V_)(a:List (List Nd)):Prop:=b.length=a.length/\∀(k:Nat)(u:V_) (l:List Nd),b[k]?=some u->a[k]?=some l->P1 w c u l
theorem r6.keep{w w':W_}{b:Nat}{c:List V_}{a:List (List Nd)}(h:r6 w b c a)(d:∀u l,P1 w b u l->P1 w' b u l):r6 w' b c a:=⟨h.1,λk u l g f=>d u l (h.2 k u l g f)⟩
theorem r6.snoc{w:W_}{f:Nat}{d:List V_}{a:List (List Nd)}{u:V_}{l:List Nd}(h:r6 w f d a)(i:P1 w f u l):r6 w f (d++[u]) (a++[l]):=by
 refine⟨by simp[h.1],λk v m c b=>?_⟩;have j:=h.1;by_cases hk:k<d.length
 .rw[List.getElem?_append_left hk] at c
  rw[List.getElem?_append_left (by omega)] at b;exact h.2 k v m c b
 .have h1':=List.getElem?_eq_some_iff.1 c
  have g:=h1'.1;simp at g;obtain rfl:k=d.length:=by omega
  simp at c;rw[j] at b;simp at b;subst c b;exact i
theorem r6.nil(w:W_)(a:Nat):r6 w a [] []:=⟨rfl,λk u l b=>by simp at b⟩
theorem P1.app{w w':W_}{j base n:Nat}{v i:V_}{k:List V_}{l:List Nd}(h:P1 w j v l)(a:w.ownsRow base 73 1 i n k)(o:w.grownBy w' i.ownBlock):P1 w' j v l:=by
 obtain⟨g,cap,c,m,t,s,r,q,f,p⟩:=h;refine⟨g,cap,c,m,t,s,r,q,(o.block g (J0.lt f) ?_).trans f,p⟩;intro e;rcases a.2 with ⟨rfl,_⟩|⟨g',cap',cur',rfl,_,k2,_⟩
 .simp[Value.ownBlock] at e
 .have d:g=g':=by simpa[Value.ownBlock] using e
  subst d;have b:some (Obj.cells cur' 73 (0,0))=some (Obj.cells c 114 (0,0)):=k2.symm.trans f;injection b with b
  injection b with _ b _
  exact absurd b (by decide)
theorem RW.own{w0 w w':W_}{rb i base n c:Nat}{T:TypeId}{d:Option Nat}{s:B_}{g:V_}{j:List V_}(h:RW w0 rb s i d w)(a:w.ownsRow base T c g n j)(m:w0.heap.size<=base)(b:w.grownBy w' g.ownBlock):RW w0 rb s i d w':=by
 have hlt:=h.lt;have f:=h.grow.size
 exact⟨(b.block rb (J0.lt h.par) (λe=>by have:=(a.lt rb e.symm).1;omega)).trans h.par,
  ⟨b.os.trans h.grow.os,b.tape.trans h.grow.tape,b.output.trans h.grow.output,Nat.le_trans f b.size,λq k l=>(b.block q (by omega) (λe=>by have:=(a.lt q e.symm).1;omega)).trans (h.grow.block q k l)⟩,h.lt⟩
theorem A5F{w:W_}{base n a:Nat}{T:TypeId}{v:V_}{b:List V_}{w':W_}{rb:Nat}(h:w.ownsRow base T a v n b)(c:w.grownBy w' (some rb))(d:rb<base):w'.ownsRow base T a v n b :=
 World.ownsRow.kept h c (.inr (λe=>by have:=(h.lt rb e).1;omega))
theorem m8{w:W_}{base n a:Nat}{T:TypeId}{v:V_}{c:List V_}{w':W_}(h:w.ownsRow base T a v n c)(b:Below w.heap.size w w'):w'.ownsRow base T a v n c :=
 World.ownsRow.kept (row:=none) h ⟨b.os,b.tape,b.output,b.size,λq d _=>b.block q d⟩ (by cases v.ownBlock <;> simp)
theorem A2d{w:W_}{base n:Nat}{T:TypeId}{v:V_}{b:List V_}(h:w.ownsRow base T 1 v n b)(f:0<n):
 ∃g cap,v=.slice (some ⟨g,0,none⟩) n cap/\n<=cap/\cap<=9223372036854775807/\base<=g/\g<w.heap.size/\∀W:W_,W.heap[g]?=w.heap[g]?->∀(k:Nat)(u:V_),b[k]?=some u->W.cell? ⟨g,k,none⟩=some u:=by
 rcases h.2 with ⟨_,h0⟩|⟨g,cap,cur,hv,h1,h2,h3,h4,h5,h6⟩
 .omega
 .refine⟨g,cap,hv,h3,by unfold maxLen at h4;omega,h1,J0.lt (show J0 w g T cur from h2),λW c k u a=>?_⟩
  have d:J0 W g T cur:=c.trans h2;rw[d.cell,←Array.getElem?_toList];rw[←h6,List.getElem?_take] at a
  split at a
  .exact a
  .cases a
theorem A3X(W:W_)(t:TypeId)(x:V_)(g:Nat)(b:g=W.heap.size):∀(j:Nat)(u:V_),[x][j]?=some u->(W.alloc (.cells #[x] t)).cell? ((⟨g,0,none⟩:Addr).add j)=some u:=by
 intro j u a;subst b;rw[Z5,Nat.zero_add,(J0.new W t #[x]).cell]
 simpa using a
theorem A1G{w:W_}{base n:Nat}{T:TypeId}{v:V_}{c:List V_}(h:w.ownsRow base T 1 v n c):
 ∃A cap,v=.slice A n cap/\n<=cap/\cap<=9223372036854775807/\(0<n->∃g,A=some ⟨g,0,none⟩/\g<w.heap.size/\∀W:W_,W.heap[g]?=w.heap[g]?->∀(k:Nat)(u:V_),c[k]?=some u->W.cell? ⟨g,k,none⟩=some u):=by
 rcases Nat.eq_zero_or_pos n with rfl|hn
 .rcases h.2 with ⟨rfl,_⟩|⟨g,cap,cur,a,j,i,f,b,d,h6⟩
  .exact⟨none,0,rfl,by omega,by omega,λh=>by omega⟩
  .exact⟨_,cap,a,f,by unfold maxLen at b;omega,λh=>by omega⟩
 .obtain⟨g,cap,a,j,i,f,b,d⟩:=A2d h hn
  exact⟨_,cap,a,j,i,λ_=>⟨g,rfl,b,d⟩⟩
theorem B2Q{s:List U_}{j:Nat}(h:O3 s j=true):s[j]?=none\/s[j]?=some 124\/s[j]?=some 41:=by
 unfold O3 at h;cases hc:s[j]? with
 | none=>exact .inl rfl
 | some c =>
   rw[hc] at h;simp only[Bool.or_eq_true,beq_iff_eq] at h;rcases h with rfl|rfl
   .exact .inr (.inl rfl)
   .exact .inr (.inr rfl)
theorem B4N{s:List U_}{j:Nat}(h:¬O3 s j=true):∃c,s[j]?=some c/\c.toNat≠124/\c.toNat≠41:=by
 unfold O3 at h;cases hc:s[j]? with
 | none=>rw[hc] at h;exact absurd rfl h
 | some c =>
   rw[hc] at h;simp only[Bool.or_eq_true,beq_iff_eq,not_or] at h;exact⟨c,rfl,λe=>h.1 (UInt8.toNat_inj.1 e),λe=>h.2 (UInt8.toNat_inj.1 e)⟩
theorem B8j{rb:Nat}{s:B_}{i:Nat}(w:W_)(h:RW w rb s i none w)(hs:s.size<=200)(hi:i<=s.size)
 (hat:∀j W,i<=j->j<s.size->RW W rb s j none W->Calls prog 134 #[.pointer (some ⟨rb,0,none⟩)] W (A3s (A1Q s.data.toList j) rb s j 0 W)):
 Calls prog 96 #[.pointer (some ⟨rb,0,none⟩)] w (A3s (W9 s.data.toList i) rb s i 1 w):=by
 obtain⟨L,hL⟩:∃L,L=s.data.toList:=⟨_,rfl⟩
 have cb:L.length=s.size:=by rw[hL];simp
 have C:=hid cb;have ak:Hid (∀(j:Nat) W,L[j]?=some 124->RW w rb s j none W->Calls prog 135 #[.pointer (some ⟨rb,0,none⟩),.int .u8 124] W (Q5 true W)):=hid λj W hc hw=>A2Z (c:=124) W hw.here hs (by rw[←hL];exact hc)
 have co:Hid (∀(j:Nat)(o:Option Nat) W,(o=none->j<=s.size/\L[j]?≠some 124)->RW w rb s j o W->Calls prog 135 #[.pointer (some ⟨rb,0,none⟩),.int .u8 124] W (Q5 false W)):=hid λj o W hj hw=>by
  cases o with
  | none=>exact A3P (c:=124) W hw.here hs (hj rfl).1 (by rw[←hL];exact(hj rfl).2)
  | some k=>exact A2a 124 W hw.here
 have bF:Hid (∀(j:Nat)(c:U_),L[j]?=some c->∃hi:j<s.size,s[j]=c):=hid λj c hc=>M7 (by rw[←hL];exact hc)
 have bL:=hid hat;have HP:=hid h;have cJ:=h.lt;unfold Q5 at ak co;unfold A3s at bL ⊢;rw[←hL] at bL ⊢;obtain⟨i0,aS,aO,aN,aM⟩:=info_parts A4B;obtain⟨bO,bg,be,bd,bc⟩:=info_parts A5Z;clear hL cb h hat;go_enter func96,ntmps96;go_wp2_with fail
 go_loopg [3] (s.size+2) (λgk v3 wr=>∃(j:Nat)(P:List V_) (a:List (List Nd)),Hid (wr.ownsRow w.heap.size 73 1 v3 a.length P)/\Hid (r6 wr w.heap.size P a)/\Hid (RW w rb s j none wr)/\Hid (A0Q L i j a)/\Hid (s.size - j+1<gk))
 case atStart=>exact⟨i,[],[],hid (World.ownsRow_nil _ _ _ _),hid (r6.nil _ _),HP,hid (A0Q.start (by rw[C.out];exact hi)),hid (by omega)⟩
 case round =>
  rename World=>wo
  obtain⟨j,vS,z,df,db,aX,al,HG⟩:=hrel
  have cP:i<=j/\j<=s.size:=by
   obtain⟨_,_,_,_,_,h1,h2,_⟩:=al.out;rw[C.out] at h2;exact⟨h1,h2⟩
  obtain⟨dG,cO⟩:=cP;have hW:=aX.out.grow.size;have q2:_=some (Value.int .i64 (-1)):=aX.out.c2
  go_upto_block 2 with fail
  go_cut [4,5] from 13 to 108 (λv4 v5 wx=>∃(n:Nat)(o:Option Nat) (P:List V_) (a:List (List Nd)),Hid (wx.ownsRow wo.heap.size 73 1 v4 a.length P)/\Hid (r6 wx wo.heap.size P a)/\Hid (RW wo rb s n o wx)/\Hid (c8 L j n o a)/\Hid (o=none->O3 L n=true))
  case first =>
   go_wp2_with fail
   go_loopg [4] (s.size+2) (λgk v4 wx=>∃(n:Nat)(o:Option Nat) (P:List V_) (a:List (List Nd)),Hid (wx.ownsRow wo.heap.size 73 1 v4 a.length P)/\Hid (r6 wx wo.heap.size P a)/\Hid (RW wo rb s n o wx)/\Hid (c8 L j n o a)/\Hid (A4J o (s.size - n)<gk))
   case atStart=>exact⟨j,none,[],[],hid (World.ownsRow_nil _ _ _ _),hid (r6.nil _ _),hid aX.out.here,hid (c8.start (by rw[C.out];exact cO)),hid (by rw[F4];omega)⟩
   case round =>
    clear q2;obtain⟨n,o,P,a,ag,ae,B,J,aK⟩:=hrel;have r0:=B.out.c0;have r1:=B.out.c1;cases o with
    | some k =>
      have q2:_=some (Value.int .i64 ((k:Nat):Int)):=B.out.c2;have dk:decide (((k:Nat):Int)<0)=false:=by simp
      go_wp2_with fail;go_quiet (fail);go_wp2_with fail
      go_meet
      exact⟨n,some k,P,a,hid (m8 ag.out (M0 br_ _)),hid (ae.out.keep λu l D=>D.below (M0 br_ _)),hid (B.out.below (M0 br_ _)),J,hid λh=>by cases h⟩
    | none =>
      have q2:_=some (Value.int .i64 (-1)):=B.out.c2
      have hj':j<=n/\n<=s.size/\a.length<=402:=by
       obtain⟨_,_,ts,_,_,h1,h2,h3⟩:=J.out;rw[C.out] at h2;have:=A3L a;exact⟨h1,h2,by omega⟩
      obtain⟨dF,dE,bT⟩:=hj';by_cases hst:O3 L n=true
      .rcases B2Q hst with hc|hc|hc
       .have bY:=List.getElem?_eq_none_iff.1 hc
        rw[C.out] at bY;have d1:=df_ ((n:Int)<s.size);have d2:=df_ (n<s.size);clear hc bY;go_wp2_with fail;go_quiet (fail);go_wp2_with fail
        go_meet
        exact⟨n,none,P,a,hid (m8 ag.out (M0 br_ _)),hid (ae.out.keep λu l D=>D.below (M0 br_ _)),hid (B.out.below (M0 br_ _)),J,hid λ_=>hst⟩
       .obtain⟨bp,he⟩:=bF.out _ _ hc
        have hz:(0:Int)<=n:=by omega
        have d1:=dt_ ((n:Int)<s.size);have d3:((s[n].toNat:Int) !=124)=false:=by rw[he];decide
        clear hc he;go_wp2_with fail;go_quiet (fail);go_wp2_with fail
        go_meet
        exact⟨n,none,P,a,hid (m8 ag.out (M0 br_ _)),hid (ae.out.keep λu l D=>D.below (M0 br_ _)),hid (B.out.below (M0 br_ _)),J,hid λ_=>hst⟩
       .obtain⟨bp,he⟩:=bF.out _ _ hc
        have hz:(0:Int)<=n:=by omega
        have d1:=dt_ ((n:Int)<s.size);have d3:((s[n].toNat:Int) !=124)=true:=by rw[he];decide
        have d4:((s[n].toNat:Int) !=41)=false:=by rw[he];decide
        clear hc he;go_wp2_with fail;go_quiet (fail);go_wp2_with fail
        go_meet
        exact⟨n,none,P,a,hid (m8 ag.out (M0 br_ _)),hid (ae.out.keep λu l D=>D.below (M0 br_ _)),hid (B.out.below (M0 br_ _)),J,hid λ_=>hst⟩
      .obtain⟨c,hc,dJ,dI⟩:=B4N hst
       obtain⟨bp,he⟩:=bF.out _ _ hc;have hz:(0:Int)<=n:=by omega
       have d1:=dt_ ((n:Int)<s.size);have d3:((s[n].toNat:Int) !=124)=true:=by rw[he];simp;omega
       have d4:((s[n].toNat:Int) !=41)=true:=by rw[he];simp;omega
       have ba:O3 L n=false:=by simpa using hst
       have cl:=hid ba;clear hc he hst ba;go_wp2_with fail;go_quiet (fail);go_wp2_with fail;have aU:Below wr.heap.size wr (wr.drewN nq):=M0 br_ _;have aD:=hid (B.out.below aU);have cr:=hid (ae.out.keep λu l D=>D.below aU);have cs:=hid (m8 ag.out aU);have bP:wo.heap.size<=(wr.drewN nq).heap.size:=aD.out.grow.size;clear aU;generalize wr.drewN nq=wd at *;refine(bL.out n wd (by omega) bp aD.out.here).mono ?_;rintro e x1⟨g,cap,l,j2,aj,rfl,bf,aQ,ho⟩;have ck:=hid (aD.out.trans aQ);have bh:rb<wo.heap.size:=by omega
       have de:=hid (cr.out.keep λu l D=>D.grown aQ.grow bh);have dh:=hid (bf.lower bP);have bD:=hid (A5F cs.out aQ.grow bh);have cx:=hid (J.out.more cl.out ho);have dA:=ck.out.grow.size
       have cv:Hid (A4J aj (s.size - j2)<gk - 1/\0<gk):=hid (by
        have h1:=aK.out;have h0:=ho.1;rw[F4] at h1;cases aj with
        | some k=>exact⟨by show 0<gk - 1;omega,by omega⟩
        | none =>
          obtain⟨_,t,_,_,h4,h5,h6⟩:=ho;rw[C.out] at h5;rw[F4];omega)
       clear bf aQ ho aK
       go_wp2_with (at_builtin;refine wpList_append_own _ rfl (.tmp 61) (.tmp 63) _ rfl wo.heap.size 73 bO _ 1 24 underlying42 bg be bd bc rfl (by omega) _ a.length P rfl (bD.out.alloc _) ⟨x1.heap.size,0,none⟩ 1 1 [.slice (some ⟨g,0,none⟩) l.length cap] rfl rfl (A3X _ _ _ _ rfl) (by intro u X;simp at X;subst X;rfl) (by unfold maxLen;omega) (by omega) (by simp;omega) ?_)
       intro v' w' F aa _;have aA:Below x1.heap.size x1 (x1.alloc (.cells #[.slice (some ⟨g,0,none⟩) l.length cap] 73)):=ba_;have dg:Hid (w'.ownsRow wo.heap.size 73 1 v' (a++[l]).length (P++[.slice (some ⟨g,0,none⟩) l.length cap])):=hid (by rw[List.length_append];exact F);have dd:Hid (r6 w' wo.heap.size (P++[.slice (some ⟨g,0,none⟩) l.length cap]) (a++[l])):=hid ((de.out.snoc dh.out).keep λu l D=>(D.below aA).app (bD.out.alloc _) aa);have cZ:Hid (RW wo rb s j2 aj w'):=hid ((ck.out.alloc _).own (bD.out.alloc _) (lr_ _) aa);clear F aa aA;go_wp2_with fail
       go_roundg (gk - 1)
       case rel=>exact⟨j2,aj,_,_,dg,dd,cZ,cx,hid cv.out.1⟩
       all_goals (have:=cv.out.2;omega)
  case rest =>
   rename World=>wa
   obtain⟨n,o,P,a,ag,ae,B,J,cm⟩:=hcut;have aE:=hid (J.out.row cm.out);have bj:=J.out.len;rw[C.out] at bj;have bT:=A3L a;have ao:Hid (Z7 a<=402):=hid (by omega);have dq:a.length<=402:=by omega
   obtain⟨A,cap,rfl,dv,ax,ar⟩:=A1G ag.out;have aZ:=hid ar;have am:=ae;have az:=B.out.grow.size;clear ar bj bT q2 J cm;go_wp2_with fail
   go_loopw [6,7] (λvx vi wx=>∃(k:Nat)(q:Int),k<=a.length/\q=(k:Int) - 1/\vi=.int .i64 q/\Hid (True->P1 wx wo.heap.size vx (L7 3 [⟨2,zc⟩] (a.drop k)))/\Hid (Below wa.heap.size wa wx)) (λ_ vi _=>(intOf vi+1).toNat)
   case atStart=>exact⟨a.length,_,lr_ _,rfl,by go_num,hid (λ_=>by rw[List.drop_length];exact r9 _ _ rfl az 2 0 0 0 0),hid ba_⟩
   case round =>
    obtain⟨k,q,hk,M,rfl,HJ,HB⟩:=hrel;have aq:=HB.out.size;cases k with
    | zero =>
      obtain rfl:q=-1:=by omega
      clear M hk;have O:=HJ.out trivial;rw[List.drop_zero] at O;obtain⟨f,Q⟩:∃f,f=L7 3 [⟨2,zc⟩] a:=⟨_,rfl⟩
      rw[←Q] at O aE;clear Q;have da:=hid O;obtain⟨g6,T,rfl,aP,bR,du,dr,dH,_⟩:=O.form;have HX:=hid (B.out.below HB.out);have cj:=hid (aX.out.trans HX.out);have ai:rb<w.heap.size:=cJ;have bx:=hid (A5F df.out HX.out.grow ai);have cn:=hid (db.out.keep λu l D=>D.grown HX.out.grow ai)
      have bQ:z.length<=402:=by
       obtain⟨_,_,_,_,_,_,h2,h3⟩:=al.out;rw[C.out] at h2;have:=A3L z;omega
      have dB:w.heap.size<=wr.heap.size:=cj.out.grow.size;have cq:=hid (da.out.lower hW);clear O HJ
      go_wp2_with (at_builtin;refine wpList_append_own _ rfl (.tmp 94) (.tmp 96) _ rfl w.heap.size 73 bO _ 1 24 underlying42 bg be bd bc rfl (by omega) _ z.length vS rfl (bx.out.alloc _) ⟨wr.heap.size,0,none⟩ 1 1 [.slice (some ⟨g6,0,none⟩) f.length T] rfl rfl (A3X _ _ _ _ rfl) (by intro u X;simp at X;subst X;rfl) (by unfold maxLen;omega) (by omega) (by simp;omega) ?_)
      intro v' w5 F aa _;have aA:Below wr.heap.size wr (wr.alloc (.cells #[.slice (some ⟨g6,0,none⟩) f.length T] 73)):=ba_;have bC:Hid (w5.ownsRow w.heap.size 73 1 v' (z++[f]).length (vS++[.slice (some ⟨g6,0,none⟩) f.length T])):=hid (by rw[List.length_append];exact F);have bA:Hid (r6 w5 w.heap.size (vS++[.slice (some ⟨g6,0,none⟩) f.length T]) (z++[f])):=hid ((cn.out.snoc cq.out).keep λu l D=>(D.below aA).app (bx.out.alloc _) aa);have aW:Hid (RW w rb s n o w5):=hid ((cj.out.alloc _).own (bx.out.alloc _) (lr_ _) aa);clear F aa aA;by_cases hm:o=none/\L[n]?=some 124
      .obtain⟨rfl,hm⟩:=hm
       have cp:=hid (al.out.more aE.out hm)
       have aK:Hid (s.size - (n+1)+1<gk - 1/\0<gk):=hid (by
        have h1:=HG.out;obtain⟨_,_,_,_,h4,h5,_⟩:=aE.out;have h6:=V0 hm;rw[C.out] at h6;omega)
       have dD:n+1<=s.size:=by have:=V0 hm;rw[C.out] at this;omega
       clear HG al;go_wp2_with fail;refine(ak.out n _ hm aW.out).mono ?_;rintro e w6⟨rfl,N⟩;have V:=hid (aW.out.below N);have aH:=hid (m8 bC.out N);have dc:=hid (bA.out.keep λu l D=>D.below N);clear N;have r0:=V.out.c0;have r1:=V.out.c1;have rf:=V.out.f1;go_wp2_with fail
       go_roundg (gk - 1)
       case rel=>exact⟨n+1,_,_,hid (A5F aH.out (V.out.here.step).grow ai),hid (dc.out.keep λu l D=>D.step ai),hid V.out.step,cp,hid aK.out.1⟩
       all_goals (have:=aK.out.2;omega)
      .have bn:o=none->n<=s.size/\L[n]?≠some 124:=by
        rintro rfl;obtain⟨_,_,_,_,_,h5,_⟩:=aE.out;rw[C.out] at h5;exact⟨h5,λe=>hm ⟨rfl,e⟩⟩
       have bw:=hid (al.out.last aE.out λe=>(bn e).2);have di:=hid bn;clear hm bn al HG;go_wp2_with fail;refine(co.out n o _ di.out aW.out).mono ?_;rintro e x6⟨rfl,N⟩;have V:=hid (aW.out.below N);have aH:=hid (m8 bC.out N);have aF:=hid (bA.out.keep λu l D=>D.below N);clear N;obtain⟨H,ca⟩:∃H,H=z++[f]:=⟨_,rfl⟩
       obtain⟨V2,b_⟩:∃V2,V2=vS++[.slice (some ⟨g6,0,none⟩) f.length T]:=⟨_,rfl⟩
       rw[←ca] at bw aH aF;rw[←b_] at aH aF;clear ca b_ bC bA am aZ ao az;have Y:=bw.out.len;rw[C.out] at Y;have bS:=A3L H;have cR:0<H.length:=Y.2;have ao:Hid (Z7 H<=402):=hid (by omega);have dp:H.length<=402:=by omega
       obtain⟨A2,cW,rfl,cQ,cE,ar⟩:=A1G aH.out;have aZ:=hid ar;have am:=aF;have az:=V.out.grow.size;clear ar Y bS;go_wp2_with fail
       go_loopw [10,11] (λvx vi wx=>∃(k:Nat)(q:Int),k<=H.length/\q=(k:Int) - 1/\vi=.int .i64 q/\Hid (k<H.length->P1 wx w.heap.size vx (L7 4 [] (H.drop k)))/\Hid (Below x6.heap.size x6 wx)) (λ_ vi _=>(intOf vi+1).toNat)
       case atStart=>exact⟨H.length,_,lr_ _,rfl,by go_num,hid (λh=>absurd h (Nat.lt_irrefl _)),hid br_⟩
       case round =>
        obtain⟨k,q,hk,M,rfl,HJ,HB⟩:=hrel;have aq:=HB.out.size;cases k with
        | zero =>
          obtain rfl:q=-1:=by omega
          clear M hk;have O:=HJ.out cR;rw[List.drop_zero] at O;have cw:=hid bw.out.all;obtain⟨bm,bb⟩:∃bm,bm=L7 4 [] H:=⟨_,rfl⟩
          rw[←bb] at O cw;clear bb;have dj:=hid O;obtain⟨g7,cf,rfl,dC,_,_,_,_,_⟩:=O.form;have cY:=hid (V.out.below HB.out);clear O HJ;go_wp2_with fail;go_ret;exact⟨g7,cf,bm,n,o,rfl,dj.out,cY.out,cw.out⟩
        | succ m =>
          obtain rfl:q=(m:Int):=by push_cast at M;omega
          clear M;obtain⟨u,X⟩:∃u,V2[m]?=some u:=⟨_,List.getElem?_eq_getElem (by rw[am.out.1];omega)⟩
          obtain⟨l,hl⟩:∃l,H[m]?=some l:=⟨_,List.getElem?_eq_getElem (by omega)⟩
          have ad:=(am.out.2 m u l X hl).keep (w':=wr) λq _ M=>HB.out.block q M
          obtain⟨ga,rfl,aw,ab⟩:=aZ.out (by omega);have bs:=ab wr (HB.out.block ga aw) m u X;have av:ga<wr.heap.size:=by omega
          have aT:=ab (wr.alloc (.cells #[.int .i64 4,.int .u64 0,.int .u64 0,.int .u64 0,.int .u64 0] 114)) ((Below.heap_alloc _ _ _ av).trans (HB.out.block ga aw)) m u X;have bz:=hid ad;obtain⟨g1,ci,rfl,bo,cM,bt,bX,br,S⟩:=ad.form;have bI:=hid S;have cL:l.length+1<=402:=Nat.le_trans (A8D H m l hl) ao.out;have cK:(m:Int)<H.length:=by omega
          have HL:=hid hl;clear ab X hl S ad;by_cases hlast:m+1=H.length
          .have d:((m:Int)==(H.length:Int) - 1)=true:=by simp;omega
           have HN:Hid (L7 4 [] (H.drop m)=l):=hid (A5U 4 [] HL.out hlast);clear hlast;go_wp2_with fail;go_roundw
           case rel=>exact⟨m,_,by omega,rfl,by go_num,hid λ_=>by rw[HN.out];exact bz.out,HB⟩
           case measure=>simp[intOf]
          .have d:((m:Int)==(H.length:Int) - 1)=false:=by simp;omega
           have hlt:m+1<H.length:=by omega
           have HN:=hid (A5S 4 [] HL.out hlt);have O:=HJ.out (by omega);have Z:=A38 4 [] (H.drop (m+1));have au:=A6T H (m+1);obtain⟨f,Q⟩:∃f,f=L7 4 [] (H.drop (m+1)):=⟨_,rfl⟩
           rw[←Q] at HN O Z;obtain⟨g2,ch,rfl,aP,bR,ax,bW,bq,R⟩:=O.form
           have bQ:f.length<=403:=by
            have h1:=ao.out;simp at Z;omega
           have bH:=hid R;have HO:Hid ((wr.alloc (.cells #[.int .i64 4,.int .u64 0,.int .u64 0,.int .u64 0,.int .u64 0] 114)).ownsRow x6.heap.size 114 5 (.slice (some ⟨wr.heap.size,0,none⟩) 1 1) 1 [.int .i64 4,.int .u64 0,.int .u64 0,.int .u64 0,.int .u64 0]):=hid (A2e (J0.new _ _ _) aq);have aC:=hid (bI.out (wr.alloc (.cells #[.int .i64 4,.int .u64 0,.int .u64 0,.int .u64 0,.int .u64 0] 114)) (Below.heap_alloc _ _ _ br));have bE:Hid ((l.flatMap P0).length=l.length*5):=hid (N1 l);have aG:=hid (o7 l);have aJ:Hid ((f.flatMap P0).length=f.length*5):=hid (N1 f);have af:=hid (o7 f);have G:x6.heap.size<=(wr.alloc (.cells #[.int .i64 4,.int .u64 0,.int .u64 0,.int .u64 0,.int .u64 0] 114)).heap.size:=by simp;omega
           have bJ:Hid (Below x6.heap.size x6 (wr.alloc (.cells #[.int .i64 4,.int .u64 0,.int .u64 0,.int .u64 0,.int .u64 0] 114))):=hid (HB.out.alloc aq _);clear Q O Z au R HJ
           go_wp2_with (first
            | (at_builtin;refine wpList_append_lies _ rfl (.tmp 127) (.tmp 131) _ rfl x6.heap.size 114 i0 _ 5 40 underlying73 aS aO aN aM rfl (by omega) _ 1 _ rfl HO.out ⟨g1,0,none⟩ l.length _ (l.flatMap P0) rfl bE.out aC.out aG.out bo (by unfold maxLen;omega) (by omega) G _ rfl ?_;intro g3 cg w3 E b ay bV;have bG:=hid b;have aI:=hid E;have cI:=b.size;have ak:Hid (∀(j:Nat)(u:V_),(f.flatMap P0)[j]?=some u->w3.cell? ((⟨g2,0,none⟩:Addr).add j)=some u):=hid (bH.out w3 ((b.block g2 (by simp;omega) (λe=>absurd (show g2=wr.heap.size from Option.some.inj e) (by omega))).trans (Below.heap_alloc _ _ _ bq)));have y:x6.heap.size<=w3.heap.size:=(by omega);clear E b ay)
            | (at_builtin;refine wpList_append_lies _ rfl (.tmp 133) (.tmp 134) _ rfl x6.heap.size 114 i0 _ 5 40 underlying73 aS aO aN aM rfl (by omega) _ (1+l.length) _ rfl aI.out ⟨g2,0,none⟩ f.length _ (f.flatMap P0) rfl aJ.out ak.out af.out aP (by unfold maxLen;omega) (by omega) y _ rfl ?_;intro g4 aB w4 p r bZ bU))
           have bB:Hid (P1 w4 w.heap.size (.slice (some ⟨g4,0,none⟩) (1+l.length+f.length) aB) (L7 4 [] (H.drop m))):=hid (by
            have e1:1+l.length+f.length=(⟨4,zc⟩::(l++f):List Nd).length:=by simp;omega
            have e2:[Value.int .i64 4,.int .u64 0,.int .u64 0,.int .u64 0,.int .u64 0]++l.flatMap P0++f.flatMap P0=(⟨4,zc⟩::(l++f):List Nd).flatMap P0:=by simp[List.flatMap_append,P0,zc]
            rw[HN.out];rw[e1,e2] at p;rw[e1];exact(P1.of_own p (by simp)).lower az)
           have bK:Hid (Below x6.heap.size x6 w4):=hid ((bJ.out.grown bG.out G λq M=>(HO.out.lt q M).1).grown r y λq M=>(aI.out.lt q M).1);clear p r;go_wp2_with fail;go_roundw
           case rel=>exact⟨m,_,by omega,rfl,by go_num,hid λ_=>bB.out,bK⟩
           case measure=>simp[intOf]
    | succ m =>
      obtain rfl:q=(m:Int):=by push_cast at M;omega
      clear M;obtain⟨u,X⟩:∃u,P[m]?=some u:=⟨_,List.getElem?_eq_getElem (by rw[am.out.1];omega)⟩
      obtain⟨l,hl⟩:∃l,a[m]?=some l:=⟨_,List.getElem?_eq_getElem (by omega)⟩
      have ad:=(am.out.2 m u l X hl).keep (w':=wr) λq _ M=>HB.out.block q M
      obtain⟨ga,rfl,aw,ab⟩:=aZ.out (by omega);have bs:=ab wr (HB.out.block ga aw) m u X;have av:ga<wr.heap.size:=by omega
      have aT:=ab (wr.alloc (.cells #[.int .i64 3,.int .u64 0,.int .u64 0,.int .u64 0,.int .u64 0] 114)) ((Below.heap_alloc _ _ _ av).trans (HB.out.block ga aw)) m u X;have bz:=hid ad;obtain⟨g1,ci,rfl,bo,cM,bt,bX,br,S⟩:=ad.form;have bI:=hid S;have cL:l.length+1<=402:=Nat.le_trans (A8D a m l hl) ao.out;have cK:(m:Int)<a.length:=by omega
      have HL:=hid hl;clear ab X hl S ad;by_cases hlast:m+1=a.length
      .have d:((m:Int)==(a.length:Int) - 1)=true:=by simp;omega
       have HN:Hid (L7 3 [⟨2,zc⟩] (a.drop m)=l):=hid (A5U 3 [⟨2,zc⟩] HL.out hlast);clear hlast;go_wp2_with fail;go_roundw
       case rel=>exact⟨m,_,by omega,rfl,by go_num,hid λ_=>by rw[HN.out];exact bz.out,HB⟩
       case measure=>simp[intOf]
      .have d:((m:Int)==(a.length:Int) - 1)=false:=by simp;omega
       have hlt:m+1<a.length:=by omega
       have HN:=hid (A5S 3 [⟨2,zc⟩] HL.out hlt);have O:=HJ.out (trivial);have Z:=A38 3 [⟨2,zc⟩] (a.drop (m+1));have au:=A6T a (m+1);obtain⟨f,Q⟩:∃f,f=L7 3 [⟨2,zc⟩] (a.drop (m+1)):=⟨_,rfl⟩
       rw[←Q] at HN O Z;obtain⟨g2,ch,rfl,aP,bR,ax,bW,bq,R⟩:=O.form
       have bQ:f.length<=403:=by
        have h1:=ao.out;simp at Z;omega
       have bH:=hid R;have HO:Hid ((wr.alloc (.cells #[.int .i64 3,.int .u64 0,.int .u64 0,.int .u64 0,.int .u64 0] 114)).ownsRow wa.heap.size 114 5 (.slice (some ⟨wr.heap.size,0,none⟩) 1 1) 1 [.int .i64 3,.int .u64 0,.int .u64 0,.int .u64 0,.int .u64 0]):=hid (A2e (J0.new _ _ _) aq);have aC:=hid (bI.out (wr.alloc (.cells #[.int .i64 3,.int .u64 0,.int .u64 0,.int .u64 0,.int .u64 0] 114)) (Below.heap_alloc _ _ _ br));have bE:Hid ((l.flatMap P0).length=l.length*5):=hid (N1 l);have aG:=hid (o7 l);have aJ:Hid ((f.flatMap P0).length=f.length*5):=hid (N1 f);have af:=hid (o7 f);have G:wa.heap.size<=(wr.alloc (.cells #[.int .i64 3,.int .u64 0,.int .u64 0,.int .u64 0,.int .u64 0] 114)).heap.size:=by simp;omega
       have bJ:Hid (Below wa.heap.size wa (wr.alloc (.cells #[.int .i64 3,.int .u64 0,.int .u64 0,.int .u64 0,.int .u64 0] 114))):=hid (HB.out.alloc aq _);clear Q O Z au R HJ
       go_wp2_with (first
        | (at_builtin;refine wpList_append_lies _ rfl (.tmp 85) (.tmp 89) _ rfl wa.heap.size 114 i0 _ 5 40 underlying73 aS aO aN aM rfl (by omega) _ 1 _ rfl HO.out ⟨g1,0,none⟩ l.length _ (l.flatMap P0) rfl bE.out aC.out aG.out bo (by unfold maxLen;omega) (by omega) G _ rfl ?_;intro g3 cg w3 E b ay bV;have bG:=hid b;have aI:=hid E;have cI:=b.size;have ak:Hid (∀(j:Nat)(u:V_),(f.flatMap P0)[j]?=some u->w3.cell? ((⟨g2,0,none⟩:Addr).add j)=some u):=hid (bH.out w3 ((b.block g2 (by simp;omega) (λe=>absurd (show g2=wr.heap.size from Option.some.inj e) (by omega))).trans (Below.heap_alloc _ _ _ bq)));have y:wa.heap.size<=w3.heap.size:=(by omega);clear E b ay)
        | (at_builtin;refine wpList_append_lies _ rfl (.tmp 91) (.tmp 92) _ rfl wa.heap.size 114 i0 _ 5 40 underlying73 aS aO aN aM rfl (by omega) _ (1+l.length) _ rfl aI.out ⟨g2,0,none⟩ f.length _ (f.flatMap P0) rfl aJ.out ak.out af.out aP (by unfold maxLen;omega) (by omega) y _ rfl ?_;intro g4 aB w4 p r bZ bU))
       have bB:Hid (P1 w4 wo.heap.size (.slice (some ⟨g4,0,none⟩) (1+l.length+f.length) aB) (L7 3 [⟨2,zc⟩] (a.drop m))):=hid (by
        have e1:1+l.length+f.length=(⟨3,zc⟩::(l++f):List Nd).length:=by simp;omega
        have e2:[Value.int .i64 3,.int .u64 0,.int .u64 0,.int .u64 0,.int .u64 0]++l.flatMap P0++f.flatMap P0=(⟨3,zc⟩::(l++f):List Nd).flatMap P0:=by simp[List.flatMap_append,P0,zc]
        rw[HN.out];rw[e1,e2] at p;rw[e1];exact(P1.of_own p (by simp)).lower az)
       have bK:Hid (Below wa.heap.size wa w4):=hid ((bJ.out.grown bG.out G λq M=>(HO.out.lt q M).1).grown r y λq M=>(aI.out.lt q M).1);clear p r;go_wp2_with fail;go_roundw
       case rel=>exact⟨m,_,by omega,rfl,by go_num,hid λ_=>bB.out,bK⟩
       case measure=>simp[intOf]
theorem B8k{rb:Nat}{s:B_}(d:s.size<=200):∀(n i:Nat)(W:W_),s.size - i<n->RW W rb s i none W->i<=s.size ->
 Calls prog 96 #[.pointer (some ⟨rb,0,none⟩)] W (A3s (W9 s.data.toList i) rb s i 1 W):=by
 intro n
 induction n with
 | zero=>intro i W g;omega
 | succ n ih =>
   intro i W g h m;exact B8j W h d m λj o l k f=>B60 o f d k λc a b=>ih (j+1) c (by omega) a b
def A5r(s:B_)(w:W_)(e:Ending)(w':W_):Prop:=Below w.heap.size w w' /\
 ((200<s.size/\e=.returned (.tuple #[.slice none 0 0,.int .i64 0,.int .i64 3])) \/
  (s.size<=200/\∃t,W9 s.data.toList 0=.ok t s.size/\60<(A0 t).length/\e=.returned (.tuple #[.slice none 0 0,.int .i64 0,.int .i64 3])) \/
  (s.size<=200/\∃t g cap,W9 s.data.toList 0=.ok t s.size/\(A0 t).length<=60/\e=.returned (.tuple #[.slice (some ⟨g,0,none⟩) (A0 t).length cap,.int .i64 0,.int .i64 0])/\P1 w' w.heap.size (.slice (some ⟨g,0,none⟩) (A0 t).length cap) (A0 t)) \/
  (s.size<=200/\∃k:Nat,(W9 s.data.toList 0=.bad k\/∃t,W9 s.data.toList 0=.ok t k/\k≠s.size)/\k<=s.size/\e=.returned (.tuple #[.slice none 0 0,.int .i64 k,.int .i64 5])))
theorem RW.out{w w':W_}{o:Obj}{i:Nat}{c:Option Nat}{s:B_}(h:RW (w.alloc o) w.heap.size s i c w'):Below w.heap.size w w':=by
 have a:=h.grow;have b:Below w.heap.size w (w.alloc o):=ba_;exact⟨a.os.trans b.os,a.tape.trans b.tape,a.output.trans b.output,Nat.le_trans b.size a.size,λq d=>(a.block q (by simp;omega) (λe=>by have:=Option.some.inj e;omega)).trans (b.block q d)⟩
theorem B6J(s:B_)(w:W_)(Q:s.size<=9223372036854775807):Calls prog 61 #[.string s] w (A5r s w):=by
 by_cases hs:200<s.size
 .have hd:=dt_ ((200:Int)<s.size)
  have ac:(200:Int)<s.size:=by omega
  unfold A5r;go_enter func61,ntmps61;go_wp2;go_ret3;exact⟨br_,.inl ⟨hs,rfl⟩⟩
 .have hd:=df_ ((200:Int)<s.size)
  have b:s.size<=200:=by omega
  have Y:RW (w.alloc (.cells #[.string s,.int .i64 0,.int .i64 (-1)] 172)) w.heap.size s 0 none (w.alloc (.cells #[.string s,.int .i64 0,.int .i64 (-1)] 172)):=RW.start (J0.new w _ _);have m:=hid (B8k b (s.size+1) 0 _ (by omega) Y (by omega));have z:s.data.toList.length=s.size:=by simp
  have A:=hid z;have r:Hid (∀(j k:Nat) W,RW (w.alloc (.cells #[.string s,.int .i64 0,.int .i64 (-1)] 172)) w.heap.size s j none W->Calls prog 97 #[.pointer (some ⟨w.heap.size,0,none⟩),.int .i64 k] W (D5 w.heap.size s j (some k) W)):=hid λj k W hw=>A0d W hw.here k
  obtain⟨C,c⟩:∃C,C=w.alloc (.cells #[.string s,.int .i64 0,.int .i64 (-1)] 172):=⟨_,rfl⟩
  have a:Hid (∀i f w',RW C w.heap.size s i f w'->Below w.heap.size w w'):=hid (by rw[c];exact λi f w' h=>h.out);have y:Hid (w.heap.size<=C.heap.size):=hid (by rw[c];simp);have O:=hid c;unfold A3s at m;unfold D5 at r;unfold A5r;rw[←c] at m r;clear Y z hs c;go_enter func61,ntmps61;go_wp2_with fail;rw[←O.out];refine m.out.mono ?_;rintro e G⟨g,cap,l,j,f,rfl,n,p,S⟩;have q:=hid p;have d:=hid (n.lower y.out);have D:=hid S;have r1:=p.c1;clear n p S m;cases f with
  | some k =>
    have q2:G.cell? ⟨w.heap.size,2,none⟩=some (.int .i64 k):=q.out.c2;have dk:decide ((k:Int)<0)=false:=by simp
    have L:decide ((0:Int)<=k)=true:=by simp
    have H:k<=s.size:=by have:=A6a D.out.2.1;rwa[A.out] at this
    go_wp2_with fail;go_region;go_wp2_with fail;go_ret3;exact⟨(a.out _ _ _ q.out).drew,.inr (.inr (.inr ⟨b,k,.inl D.out.2.1,H,rfl⟩))⟩
  | none =>
    have q2:G.cell? ⟨w.heap.size,2,none⟩=some (.int .i64 (-1)):=q.out.c2;obtain⟨t,R,T,h1,X,h3⟩:=D.out.2;have h2':=X;rw[A.out] at h2';have P:=hid R;have B:=hid T;clear R T X D;by_cases hj:j=s.size
    .have d1:=df_ ((j:Int)<s.size)
     have d2:=df_ (j<s.size);obtain⟨N,J⟩:∃N,N=l.length:=⟨_,rfl⟩
     rw[←J] at d ⊢;have E:=hid J;have HRow':Hid (P1 G w.heap.size (.slice (some ⟨g,0,none⟩) N cap) (A0 t)):=hid (by have:=d.out;rwa[B.out] at this);have F:=hid hj;clear J d hj;by_cases h60:60<N
     .have d3:=dt_ ((60:Int)<N)
      go_wp2_with fail;go_ret3;exact⟨a.out _ _ _ q.out,.inr (.inl ⟨b,t,by rw[P.out,F.out],by rw[←B.out,←E.out];exact h60,rfl⟩)⟩
     .have d3:=df_ ((60:Int)<N)
      go_wp2_with fail;go_ret3;refine⟨a.out _ _ _ q.out,.inr (.inr (.inl ⟨b,t,g,cap,by rw[P.out,F.out],by rw[←B.out,←E.out];omega,by rw[←B.out,←E.out];rfl,?_⟩))⟩;have V:=HRow'.out;rw[E.out,B.out] at V;exact V
    .have d1:=dt_ ((j:Int)<s.size)
     have d2:=dt_ (j<s.size);have F:=hid hj;clear hj;go_wp2_with fail;refine(r.out j j _ q.out).mono ?_;rintro e Z⟨rfl,o⟩;have M:=hid (q.out.trans o);have q3:Z.cell? ⟨w.heap.size,2,none⟩=some (.int .i64 j):=o.c2;have L:decide ((0:Int)<=j)=true:=by simp
     clear o;go_wp2_with fail;go_region;go_wp2_with fail;go_ret3;exact⟨(a.out _ _ _ M.out).drew,.inr (.inr (.inr ⟨b,j,.inr ⟨t,P.out,F.out⟩,h2',rfl⟩))⟩
