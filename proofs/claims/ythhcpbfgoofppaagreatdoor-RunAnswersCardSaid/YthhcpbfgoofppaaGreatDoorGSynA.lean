import Derived.Test.YthhcpbfgoofppaaGreatDoorGCls
import Derived.Test.YthhcpbfgoofppaaGreatDoorGPu
set_option linter.unusedVariables false
set_option linter.unusedSimpArgs false
open Wf
set_option maxRecDepth 100000
set_option maxHeartbeats 8000000
open Go.Lib (hid)
open Go.Proofs.Tryz hiding parts
namespace Go.Proofs.YthhcpbfgoofppaaGreatDoor
open Go.RowKit Wf
def A1A(k:Nat):V_:=.iface 188 (.agg #[.int .i64 k])
structure PW (w0:W_) (pb:Nat) (s:B_) (i:Nat) (w:W_):Prop where
 par:J0 w pb 135 #[.string s,.int .i64 i]
 grow:w0.grownBy w (some pb)
 lt:pb<w0.heap.size
def PS(w0:W_)(pb k:Nat)(e:Ending)(w:W_):Prop:=e=.panicked [{ v:=A1A k,recovered:=false }]/\w0.grownBy w (some pb)
section
variable {w0 w w':W_} {pb i j k:Nat} {s:B_}
theorem PW.start(h:J0 w pb 135 #[.string s,.int .i64 i]):PW w pb s i w:=⟨h,⟨rfl,rfl,rfl,lr_ _,λ_ _ _=>rfl⟩,h.lt⟩
theorem PW.trans(h:PW w0 pb s i w)(a:PW w pb s j w'):PW w0 pb s j w':=⟨a.par,h.grow.trans a.grow,h.lt⟩
theorem PW.here(h:PW w0 pb s i w):PW w pb s i w:=PW.start h.par
theorem PW.below(h:PW w0 pb s i w)(a:Below w.heap.size w w'):PW w0 pb s i w':=⟨h.par.kept a,h.grow.trans ⟨a.os,a.tape,a.output,a.size,λq b _=>a.block q b⟩,h.lt⟩
theorem PW.one(h:PW w0 pb s i w)(j:Nat):PW w0 pb s j (w.setCell ⟨pb,1,none⟩ (.int .i64 j)) :=
 ⟨h.par.set_ 1 _,h.grow.trans ⟨rfl,rfl,rfl,by simp,λq _ a=>Below.heap_setCell w _ _ q (λe=>a (by rw[e]))⟩,h.lt⟩
theorem PW.c0(h:PW w0 pb s i w):w.cell? ⟨pb,0,none⟩=some (.string s):=h.par.cell 0
theorem PW.c1(h:PW w0 pb s i w):w.cell? ⟨pb,1,none⟩=some (.int .i64 i):=h.par.cell 1
theorem PW.f1(h:PW w0 pb s i w):w.frozen? ⟨pb,1,none⟩=false:=h.par.frozen 1
end
def M3(c:Nat)(b:Bool)(w:W_)(e:Ending)(w':W_):Prop:=e=.returned (.tuple #[.int .u8 c,.bool b])/\Below w.heap.size w w'
theorem P9{s:B_}{i:Nat}{c:U_}(h:s.data.toList[i]?=some c):∃a:i<s.size,s[i]=c:=by
 obtain⟨a,d⟩:=List.getElem?_eq_some_iff.1 h;have b:i<s.size:=by simpa using a
 exact⟨b,by rw[←d];simp[ByteArray.getElem_eq_getElem_data]⟩
theorem B7t{s:B_}{i:Nat}(h:s.data.toList[i]?=none):s.size<=i:=by
 have:=List.getElem?_eq_none_iff.1 h
 simpa using this
theorem O7(s:B_):s.data.toList.length=s.size:=by simp
theorem Q4{pb:Nat}{s:B_}{i:Nat}{c:U_}(w:W_)(h:PW w pb s i w)(m:s.size<=200)(d:s.data.toList[i]?=some c):
 Calls prog 175 #[.pointer (some ⟨pb,0,none⟩)] w (M3 c.toNat true w):=by
 obtain⟨f,b⟩:=P9 d;have p:=h.c0;have o:=h.c1;have a:=dt_ ((i:Int)<s.size);have l:(0:Int)<=i:=by omega
 have n:i<s.size:=f;have g:=hid b;clear h d b;unfold M3;go_enter func175,ntmps175;go_wp2;go_quiet (fail);go_wp2;go_quiet (fail);go_wp2;go_ret2;exact⟨by rw[g.out];rfl,M0 (M0 br_ _) _⟩
theorem A1F{pb:Nat}{s:B_}{i:Nat}(w:W_)(h:PW w pb s i w)(d:s.size<=200)(c:i<=s.size)(b:s.data.toList[i]?=none):
 Calls prog 175 #[.pointer (some ⟨pb,0,none⟩)] w (M3 0 false w):=by
 have f:=B7t b;have l:=h.c0;have g:=h.c1;have a:=df_ ((i:Int)<s.size);clear h b;unfold M3;go_enter func175,ntmps175;go_wp2;go_quiet (fail);go_wp2;go_ret2;exact⟨rfl,M0 br_ _⟩
def E9(pb:Nat)(s:B_)(i:Nat)(w:W_)(e:Ending)(w':W_):Prop:=e=.returned (.bool true)/\PW w pb s (i+1) w'
def t8(w:W_)(e:Ending)(w':W_):Prop:=e=.returned (.bool false)/\Below w.heap.size w w'
theorem A07{pb:Nat}{s:B_}{i:Nat}{c:U_}(w:W_)(h:PW w pb s i w)(g:s.size<=200)(d:s.data.toList[i]?=some c):
 Calls prog 149 #[.pointer (some ⟨pb,0,none⟩),.int .u8 c.toNat] w (E9 pb s i w):=by
 obtain⟨p,l⟩:=P9 d;have H:=hid (λw' (f:Below w.heap.size w w')=>h.below f);have n:=hid (Q4 w h g d);have m:i+1<=200:=by omega
 have f:((c.toNat:Int) !=(c.toNat:Int))=false:=by simp
 clear h d l;unfold E9;go_enter func149,ntmps149
 go_wp2_with (go_at_call 175;refine n.out.mono ?_;rintro e b⟨rfl,a⟩;have t:=(H.out b a).c0;have r:=(H.out b a).c1;have q:=(H.out b a).f1;have o:=hid a;clear a)
 go_wp2;go_ret;refine⟨rfl,?_⟩;have:=(H.out b o.out).one (i+1)
 push_cast at this
 exact this
theorem A5Y{pb:Nat}{s:B_}{i:Nat}{c:U_}(w:W_)(h:PW w pb s i w)(o:s.size<=200)(g:i<=s.size)(l:s.data.toList[i]?≠some c):
 Calls prog 149 #[.pointer (some ⟨pb,0,none⟩),.int .u8 c.toNat] w (t8 w):=by
 cases hg:s.data.toList[i]? with
 | none =>
   have H:=hid (λw' (f:Below w.heap.size w w')=>h.below f);have m:=hid (A1F w h o g hg);clear h l hg;unfold t8;go_enter func149,ntmps149
   go_wp2_with (go_at_call 175;refine m.out.mono ?_;rintro e b⟨rfl,a⟩;have t:=(H.out b a).c0;have r:=(H.out b a).c1;have q:=(H.out b a).f1;have n:=hid a;clear a)
   go_ret;exact⟨rfl,n.out⟩
 | some d =>
   have H:=hid (λw' (f:Below w.heap.size w w')=>h.below f);have m:=hid (Q4 w h o hg);have p:d.toNat≠c.toNat:=λe=>l (by rw[hg,UInt8.toNat_inj.1 e])
   have f:((d.toNat:Int) !=(c.toNat:Int))=true:=by simp;omega
   clear h l hg;unfold t8;go_enter func149,ntmps149
   go_wp2_with (go_at_call 175;refine m.out.mono ?_;rintro e b⟨rfl,a⟩;have t:=(H.out b a).c0;have r:=(H.out b a).c1;have q:=(H.out b a).f1;have n:=hid a;clear a)
   go_ret;exact⟨rfl,n.out⟩
def Q9(pb:Nat)(s:B_)(i c:Nat)(w:W_)(e:Ending)(w':W_):Prop:=e=.returned (.int .u8 c)/\PW w pb s (i+1) w'
theorem T4{pb:Nat}{s:B_}{i:Nat}{c:U_}(w:W_)(h:PW w pb s i w)(f:s.size<=200)(d:s.data.toList[i]?=some c):
 Calls prog 220 #[.pointer (some ⟨pb,0,none⟩)] w (Q9 pb s i c.toNat w):=by
 obtain⟨o,g⟩:=P9 d;have H:=hid (λw' (hb:Below w.heap.size w w')=>h.below hb);have m:=hid (Q4 w h f d);have l:i+1<=200:=by omega
 clear h d g;unfold Q9;go_enter func220,ntmps220
 go_wp2_with (go_at_call 175;refine m.out.mono ?_;rintro e b⟨rfl,a⟩;have r:=(H.out b a).c0;have q:=(H.out b a).c1;have p:=(H.out b a).f1;have n:=hid a;clear a)
 go_ret;refine⟨rfl,?_⟩;have:=(H.out b n.out).one (i+1)
 push_cast at this
 exact this
theorem A36{pb:Nat}{s:B_}{i:Nat}(w:W_)(h:PW w pb s i w)(f:s.size<=200)(c:i<=s.size)(d:s.data.toList[i]?=none):
 Calls prog 220 #[.pointer (some ⟨pb,0,none⟩)] w (PS w pb s.size):=by
 have H:=hid (λw' (hb:Below w.heap.size w w')=>h.below hb);have g:=hid (A1F w h f c d);clear h d;unfold PS A1A;go_enter func220,ntmps220
 go_wp2_with (go_at_call 175;refine g.out.mono ?_;rintro e b⟨rfl,a⟩;have o:=(H.out b a).c0;have n:=(H.out b a).c1;have m:=(H.out b a).f1;have l:=hid a;clear a)
 exact⟨rfl,rfl,(H.out b l.out).grow⟩
def A2q(c:Nat):Option Nat:=if 48<=c/\c<=57 then some (c - 48) else if 65<=c/\c<=70 then some (c - 55) else if 97<=c/\c<=102 then some (c - 87) else none
theorem B8v:∀c:Fin 256,bits .or .u8 ((c.val:Nat):Int) 32=(((c.val ||| 32:Nat)):Int):=by decide +kernel
theorem B4s:∀(c:Fin 256)(a:Fin 16),A2q c.val=some a.val->(48<=c.val/\c.val<=57/\c.val=a.val+48)\/(¬(48<=c.val/\c.val<=57)/\10<=a.val/\(c.val ||| 32)=a.val+87/\c.val≠95):=by decide +kernel
theorem A3b{c a:Nat}(h:A2q c=some a):a<16/\c<256:=by
 unfold A2q at h
 split at h
 .cases h;omega
 .split at h
  .cases h;omega
  .split at h
   .cases h;omega
   .cases h
theorem B7H{c a:Nat}(h:A2q c=some a):(48<=c/\c<=57/\c=a+48)\/(¬(48<=c/\c<=57)/\10<=a/\(c ||| 32)=a+87/\c≠95):=B4s ⟨c,(A3b h).2⟩ ⟨a,(A3b h).1⟩ h
theorem B7I:∀c:Fin 256,A2q c.val=none->¬(48<=c.val/\c.val<=57)/\(c.val ||| 32)<256/\((c.val ||| 32)<97\/103<=(c.val ||| 32)):=by decide +kernel
def B8T(l:Nat)(w:W_)(e:Ending)(w':W_):Prop:=e=.returned (.int .u8 l)/\w=w'
theorem A7W(c:Nat)(a:c<256)(w:W_):Calls prog 178 #[.int .u8 c] w (B8T (c ||| 32) w):=by
 refine(AnyPu.internal_strconv_lower B8y (c:Int) w).mono ?_;rintro e w'⟨rfl,rfl⟩;exact⟨by rw[B8v ⟨c,a⟩],rfl⟩
structure InU (t:B_) (c:Nat):Prop where
 lt:c<256
 s0:0<t.size
 s2:t.size<=2
 get:t.data.toList.getD 0 0=UInt8.ofNat c
def A4s(a:Nat)(w:W_)(e:Ending)(w':W_):Prop:=e=.returned (.tuple #[.int .u64 a,.nilIface])/\Below w.heap.size w w'
def A1T(w:W_)(e:Ending)(w':W_):Prop:=e=.returned (.tuple #[.int .u64 0,.iface 210 (.int .i64 2)])/\Below w.heap.size w w'
theorem A2E(w:W_)(t:B_):Below w.heap.size w (Lib.bytesWorld w 5 t):=Lib.bytesWorld_below w _ t
theorem B29(t:B_)(c:Nat)(C:InU t c)(D:A2q c=none)(E:c≠95)(w:W_):
 Calls prog 152 #[.string t,.int .i64 16,.int .i64 8] w (A1T w):=by
 have z:((c:Int)==95)=false:=by simp;omega
 obtain⟨y,A,F,b⟩:=C;obtain⟨r,f,p⟩:=B7I ⟨c,y⟩ D;have hd':¬(48<=c/\c<=57):=r;have hl2':c ||| 32<256:=f
 have hl':c ||| 32<97\/103<=c ||| 32:=p
 have a:=hid (λW=>A7W c y W)
 have q:t.toList.isEmpty=false:=by
  rw[←decide_eq_emptyBytes];exact decide_eq_false (λh=>absurd A (by rw[h];decide))
 have n:=Lib.run_convert_string_bytes (P:=prog) w 9 30 5 t (u:=.string) underlying9 underlying30 underlying5;have o:=Lib.bytesWorld_cell w 5 t 0 A;have d:=hid (A2E w t);rw[b] at o;have g:((UInt8.ofNat c).toNat:Int)=(c:Int):=by simp;omega
 rw[g] at o;obtain⟨B,m⟩:∃B,B=Lib.bytesWorld w 5 t:=⟨_,rfl⟩
 rw[←m] at n o d;generalize hlv:c ||| 32=l at a hl2' hl'
 clear m b r f p hlv g;unfold A1T;go_enter func152,ntmps152;go_wp2
 go_loop [101] (λvi=>vi=.int .i64 0) (λ_=>0)
 case atStart=>rfl
 case round =>
  obtain rfl:=hrel;rcases hl' with hl'|hl'
  .go_wp2_with (go_at_call 178;refine(a.out _).mono ?_;rintro e w'⟨rfl,rfl⟩)
   all_goals go_ret2
   all_goals exact⟨rfl,d.out⟩
  .go_wp2_with (go_at_call 178;refine(a.out _).mono ?_;rintro e w'⟨rfl,rfl⟩)
   all_goals go_ret2
   all_goals exact⟨rfl,d.out⟩
theorem B49(t:B_)(p:InU t 95)(w:W_):
 Calls prog 152 #[.string t,.int .i64 16,.int .i64 8] w (A1T w):=by
 obtain⟨q,n,r,a⟩:=p;have d:Hid (∀W,Calls prog 178 #[.int .u8 95] W (B8T 127 W)):=hid (λW=>A7W 95 (by decide) W)
 have m:t.toList.isEmpty=false:=by
  rw[←decide_eq_emptyBytes];exact decide_eq_false (λh=>absurd n (by rw[h];decide))
 have g:=Lib.run_convert_string_bytes (P:=prog) w 9 30 5 t (u:=.string) underlying9 underlying30 underlying5;have l:=Lib.bytesWorld_cell w 5 t 0 n;have f:=hid (A2E w t);rw[a] at l;have b:((UInt8.ofNat 95).toNat:Int)=95:=by decide
 rw[b] at l;obtain⟨o,c⟩:∃o,o=Lib.bytesWorld w 5 t:=⟨_,rfl⟩
 rw[←c] at g l f;clear c a b;unfold A1T;go_enter func152,ntmps152;go_wp2
 go_loop [101] (λvi=>vi=.int .i64 0) (λ_=>0)
 case atStart=>rfl
 case round =>
  obtain rfl:=hrel
  go_wp2_with (go_at_call 178;refine(d.out _).mono ?_;rintro e w'⟨rfl,rfl⟩)
  all_goals go_ret2
  all_goals exact⟨rfl,f.out⟩
theorem B5A(t:B_)(c a:Nat)(D:InU t c)(G:t.size=1)(q:A2q c=some a)(w:W_):
 Calls prog 152 #[.string t,.int .i64 16,.int .i64 8] w (A4s a w):=by
 obtain⟨E,y,F,f⟩:=D;have H:=(A3b q).1;have d:=B7H q;have g:=hid (λW=>A7W c E W)
 have z:t.toList.isEmpty=false:=by
  rw[←decide_eq_emptyBytes];exact decide_eq_false (λh=>absurd y (by rw[h];decide))
 have m:=Lib.run_convert_string_bytes (P:=prog) w 9 30 5 t (u:=.string) underlying9 underlying30 underlying5;rw[G] at m;have r:=Lib.bytesWorld_cell w 5 t 0 y;have p:=hid (A2E w t);rw[f] at r;have n:((UInt8.ofNat c).toNat:Int)=(c:Int):=by simp;omega
 rw[n] at r;obtain⟨B,o⟩:∃B,B=Lib.bytesWorld w 5 t:=⟨_,rfl⟩
 rw[←o] at m r p;have A:((c:Int)==95)=false:=by simp;omega
 generalize hlv:c ||| 32=l at g d
 clear o f hlv n q y F;unfold A4s;go_enter func152,ntmps152;go_wp2
 go_loop [12,13,101] (λvu vn vi=>vu=.bool false/\((vi=.int .i64 0/\vn=.int .u64 0)\/(vi=.int .i64 1/\vn=.int .u64 a))) (λ_ _ vi=>1 - (intOf vi).toNat)
 case atStart=>exact⟨rfl,.inl ⟨rfl,rfl⟩⟩
 case round =>
  obtain⟨rfl,C⟩:=hrel;rcases C with ⟨rfl,rfl⟩|⟨rfl,rfl⟩
  .rcases d with ⟨d1,d2,d3⟩|⟨d1,d2,d3,d4⟩
   .have b:(c:Int) - 48=(a:Int):=by omega
    go_wp2
    go_round
    case rel=>exact⟨rfl,.inr ⟨by go_num,by rw[←b]⟩⟩
    case measure=>simp[intOf]
   .have b:(l:Int) - 97+10=(a:Int):=by omega
    go_wp2_with (go_at_call 178;refine(g.out _).mono ?_;rintro e w'⟨rfl,rfl⟩)
    all_goals exact⟨⟨rfl,.inr ⟨rfl,by congr 1;omega⟩⟩,by simp[intOf]⟩
  .go_wp2
   go_ret2;exact⟨rfl,p.out⟩
def A2K(ev:V_)(w:W_):Prop:=w.cell? ⟨3,0,none⟩=some ev/\(ev=.nilIface\/∃a b,ev=.iface a b)
theorem A2K.below{ev:V_}{w w':W_}(h:A2K ev w)(a:Below w.heap.size w w'):A2K ev w':=⟨(a.cell (p:=⟨3,0,none⟩) (World.block_lt_of_cell? w _ h.1)).trans h.1,h.2⟩
def A9i(w:W_)(e:Ending)(w':W_):Prop:=∃N,e=.returned (.tuple #[.int .u64 0,.iface 213 (.pointer (some ⟨N,0,none⟩))])/\Below w.heap.size w w'
theorem A8e(t:B_)(c a:Nat)(b:InU t c)(f:t.size=1)(d:A2q c=some a)(w:W_):
 Calls prog 225 #[.string t,.int .i64 16,.int .i64 8] w (A4s a w):=by
 have h:=hid (B5A t c a b f d w);clear b f d;unfold A4s at *;go_enter func225,ntmps225
 go_wp2_with (go_at_call 152;refine h.out.mono ?_;rintro e w'⟨rfl,g⟩)
 go_ret2;exact⟨rfl,g⟩
theorem B2l(t:B_)(c:Nat)(d:InU t c)(m:A2q c=none)(w:W_)(ev:V_)(l:A2K ev w):
 Calls prog 225 #[.string t,.int .i64 16,.int .i64 8] w (A9i w):=by
 have b:Calls prog 152 #[.string t,.int .i64 16,.int .i64 8] w (A1T w):=by
  by_cases h:c=95
  .subst h;exact B49 t d w
  .exact B29 t c d m h w
 have n:=hid b
 have r:Hid (∀w',Below w.heap.size w w'->Calls prog 84 #[.string ⟨#[80,97,114,115,101,85,105,110,116]⟩,.string t,.int .i64 16,.int .i64 8,.iface 210 (.int .i64 2)] w' λe f=>∃N,e=.returned (.iface 213 (.pointer (some ⟨N,0,none⟩)))/\Below w'.heap.size w' f):=hid (λw' p=>by
  have y:=d.s2;refine(AnyPu.strconv_toError_syntax B81 _ t 16 8 ev w' (by omega) (l.below p).1 l.2).mono ?_;rintro e f⟨N,rfl,_,_,q⟩;exact⟨N,rfl,q⟩)
 clear d m l b;unfold A9i;unfold A1T at n;go_enter func225,ntmps225
 go_wp2_with (first
  | (go_at_call 152;refine n.out.mono ?_;rintro e o⟨rfl,a⟩)
  | (go_at_call 84;refine(r.out o a).mono ?_;rintro e f⟨N,rfl,g⟩))
 go_ret2;exact⟨N,rfl,a.trans (g.mono a.size)⟩
theorem B9B:∀c:Fin 256,(Utf8.encode ((c.val:Nat):Int)).size<=2/\0<(Utf8.encode ((c.val:Nat):Int)).size/\(c.val<128->(Utf8.encode ((c.val:Nat):Int)).data.toList.getD 0 0=UInt8.ofNat c.val/\(Utf8.encode ((c.val:Nat):Int)).size=1) /\
 (128<=c.val->128<=((Utf8.encode ((c.val:Nat):Int)).data.toList.getD 0 0).toNat):=by decide +kernel
theorem A9D(c:Nat)(a:c<256)(w:W_):(convert 21 9 (.int .i32 (c:Int))).run prog w=.ok (.string (Utf8.encode (c:Int))) w:=by
 simp[convert,run_underlying underlying21,run_underlying underlying9,Conv.intToString]
theorem B7R{x:Nat}(h:128<=x):A2q x=none:=by
 unfold A2q;rw[if_neg (by omega),if_neg (by omega),if_neg (by omega)]
theorem B8P(c:Nat)(f:c<256):∃d,InU (Utf8.encode (c:Int)) d/\(c<128->d=c/\(Utf8.encode (c:Int)).size=1)/\(128<=c->A2q d=none):=by
 have a:=B9B ⟨c,f⟩;simp only at a;generalize Utf8.encode (c:Int)=t at a ⊢;obtain⟨l,g,p,o⟩:=a;by_cases h:c<128
 .obtain⟨b,n⟩:=p h
  exact⟨c,⟨f,g,l,b⟩,λ_=>⟨rfl,n⟩,λm=>by omega⟩
 .have b:=o (by show 128<=c;omega)
  exact⟨(t.data.toList.getD 0 0).toNat,⟨UInt8.toNat_lt _,g,l,by simp⟩,λm=>absurd m h,λ_=>B7R b⟩
theorem B1o(c:U_):(∀a,A1M c=some a->A2q c.toNat=some a/\¬(65<=c.toNat/\c.toNat<=70)/\c.toNat<128)/\(A1M c=none->A2q c.toNat=none\/(65<=c.toNat/\c.toNat<=70)):=by
 unfold A1M A2q;constructor
 .intro a h
  split at h
  .rename_i q;rw[if_pos q];exact⟨h,by omega,by omega⟩
  .split at h
   .rename_i q;rw[if_neg (by omega),if_neg (by omega),if_pos q];exact⟨h,by omega,by omega⟩
   .cases h
 .intro h
  split at h
  .cases h
  .split at h
   .cases h
   .by_cases q:65<=c.toNat/\c.toNat<=70
    .exact .inr q
    .left;rw[if_neg (by omega),if_neg q,if_neg (by omega)]
def A9o(pb:Nat)(s:B_)(i a:Nat)(w:W_)(e:Ending)(w':W_):Prop:=e=.returned (.int .u8 a)/\PW w pb s (i+1) w'
theorem A8u{pb:Nat}{s:B_}{i:Nat}(w:W_)(h:PW w pb s i w)(d:s.size<=200)(a:i<=s.size)(c:s.data.toList[i]?=none)(f:Nat):
 Calls prog 221 #[.pointer (some ⟨pb,0,none⟩),.int .i64 f] w (PS w pb s.size):=by
 have g:=hid (A36 w h d a c);clear h c;unfold PS at *;go_enter func221,ntmps221
 go_wp2_with (go_at_call 220;refine g.out.mono ?_;rintro e l⟨rfl,b⟩)
 exact⟨rfl,rfl,b⟩
theorem A7b{pb:Nat}{s:B_}{i:Nat}{c:U_}{a:Nat}(w:W_)(h:PW w pb s i w)(E:s.size<=200)(q:s.data.toList[i]?=some c)(y:A1M c=some a)(f:Nat):
 Calls prog 221 #[.pointer (some ⟨pb,0,none⟩),.int .i64 f] w (A9o pb s i a w):=by
 obtain⟨J,A⟩:=P9 q;have L:i+1<=200:=by omega
 obtain⟨o,F,hlt⟩:=(B1o c).1 a y;have P:=(A3b o).1;have M:=hid (T4 w h E q);have p:=λW=>A9D c.toNat c.toNat_lt W
 obtain⟨d,B,m,_⟩:=B8P c.toNat c.toNat_lt;obtain⟨rfl,l⟩:=m hlt;have C:=hid (λW=>A8e _ _ a B l o W);generalize Utf8.encode ((c.toNat:Nat):Int)=t at p C;have N:=hid A;have G:((i+1:Nat):Int) - 1=(i:Int):=by push_cast;omega
 have H:c.toNat<256:=c.toNat_lt;clear h q y o B m l A;have z:s[i]'J=c:=N.out;unfold A9o;go_enter func221,ntmps221
 go_wp2_with (first
  | (go_at_call 220;refine M.out.mono ?_;rintro e D⟨rfl,g⟩)
  | (go_at_call 225;refine(C.out D).mono ?_;rintro e O⟨rfl,n⟩;have b:=g.below n;have R:=b.c0;have Q:=b.c1;have r:=hid b;clear g n b))
 go_quiet (fail);go_wp2
 all_goals go_ret
 all_goals exact⟨rfl,r.out.below (M0 br_ _)⟩
theorem B1n{pb:Nat}{s:B_}{i:Nat}{c:U_}(w:W_)(h:PW w pb s i w)(O:s.size<=200)(C:s.data.toList[i]?=some c)(D:A1M c=none)(f:Nat)(ev:V_)(p:A2K ev w)(G:3≠pb):
 Calls prog 221 #[.pointer (some ⟨pb,0,none⟩),.int .i64 f] w (PS w pb f):=by
 obtain⟨R,F⟩:=P9 C;have S:i+1<=200:=by omega
 have L:=hid (T4 w h O C);have y:=λW=>A9D c.toNat c.toNat_lt W
 obtain⟨d,B,o,n⟩:=B8P c.toNat c.toNat_lt;have H:Hid (∀w',w.grownBy w' (some pb)->A2K ev w'):=hid (λw' m=>⟨(World.grownBy.cell_far m ⟨3,0,none⟩ (World.block_lt_of_cell? w _ p.1) (λe=>G (Option.some.inj e))).trans p.1,p.2⟩);have J:s[i]'R=c:=F;have P:((i+1:Nat):Int) - 1=(i:Int):=by push_cast;omega
 have Q:c.toNat<256:=c.toNat_lt;by_cases m:A2q d=none
 .have z:=hid (λW (p:A2K ev W)=>B2l _ _ B m W ev p)
  generalize Utf8.encode ((c.toNat:Nat):Int)=t at y z;clear h C D B o n F m p;unfold PS A1A;go_enter func221,ntmps221
  go_wp2_with (first
   | (go_at_call 220;refine L.out.mono ?_;rintro e A⟨rfl,g⟩)
   | (go_at_call 225;refine(z.out A (H.out A g.grow)).mono ?_;rintro e M⟨N,rfl,l⟩;have b:=g.below l;have Y:=b.c0;have X:=b.c1;have q:=hid b;clear g l b))
  go_quiet (fail);go_wp2;exact⟨rfl,rfl,(q.out.below (M0 br_ _)).grow⟩
 .have hlt:c.toNat<128:=by
   rcases Nat.lt_or_ge c.toNat 128 with h1|h1
   .exact h1
   .exact absurd (n h1) m
  obtain⟨rfl,r⟩:=o hlt
  obtain⟨V,T⟩:65<=c.toNat/\c.toNat<=70:=by
   rcases(B1o c).2 D with h1|h1
   .exact absurd h1 m
   .exact h1
  obtain⟨a,E⟩:=Option.ne_none_iff_exists'.1 m;have Z:=(A3b E).1;have z:=hid (λW=>A8e _ _ a B r E W);generalize Utf8.encode ((c.toNat:Nat):Int)=t at y z;clear h C D B o n r F m p E;unfold PS A1A;go_enter func221,ntmps221
  go_wp2_with (first
   | (go_at_call 220;refine L.out.mono ?_;rintro e A⟨rfl,g⟩)
   | (go_at_call 225;refine(z.out A).mono ?_;rintro e M⟨rfl,l⟩;have b:=g.below l;have Y:=b.c0;have X:=b.c1;have q:=hid b;clear g l b))
  go_quiet (fail);go_wp2;exact⟨rfl,rfl,(q.out.below (M0 br_ _)).grow⟩
def RdB(r:PR Nat)(pb:Nat)(s:B_)(w:W_)(e:Ending)(w':W_):Prop :=
 (∃a j,r=.ok a j/\e=.returned (.int .u8 a)/\PW w pb s j w')\/(∃k,r=.bad k/\PS w pb k e w')
theorem RdB.ok{r:PR Nat}{pb:Nat}{s:B_}{w w':W_}{e:Ending}{a j:Nat}(b:r=.ok a j)(h:RdB r pb s w e w'):e=.returned (.int .u8 a)/\PW w pb s j w':=by
 rcases h with ⟨a',j',h1,h2,h3⟩|⟨k,h1,_⟩
 .rw[b] at h1;cases h1;exact⟨h2,h3⟩
 .rw[b] at h1;cases h1
theorem RdB.bad{r:PR Nat}{pb:Nat}{s:B_}{w w':W_}{e:Ending}{k:Nat}(a:r=.bad k)(h:RdB r pb s w e w'):PS w pb k e w':=by
 rcases h with ⟨a',j',h1,h2,h3⟩|⟨k',h1,h2⟩
 .rw[a] at h1;cases h1
 .rw[a] at h1;cases h1;exact h2
structure T9 (ev:V_) (pb:Nat) (s:B_) (i:Nat) (w:W_):Prop where
 pw:PW w pb s i w
 sz:s.size<=200
 le:i<=s.size
 ev:A2K ev w
 ne:3≠pb
theorem T9.next{ev:V_}{pb:Nat}{s:B_}{i j:Nat}{w w':W_}(h:T9 ev pb s i w)(a:PW w pb s j w')(b:j<=s.size):T9 ev pb s j w' :=
 ⟨a.here,h.sz,b,⟨(World.grownBy.cell_far a.grow ⟨3,0,none⟩ (World.block_lt_of_cell? w _ h.ev.1) (λe=>h.ne (Option.some.inj e))).trans h.ev.1,h.ev.2⟩,h.ne⟩
theorem T9.below{ev:V_}{pb:Nat}{s:B_}{i:Nat}{w w':W_}(h:T9 ev pb s i w)(a:Below w.heap.size w w'):T9 ev pb s i w':=h.next (h.pw.below a) h.le
theorem B8f:∀(a b:Fin 16),bits .or .u8 ((a.val:Int)*16) ((b.val:Nat):Int)=((a.val*16+b.val:Nat):Int):=by decide +kernel
def z8(pb:Nat)(s:B_)(j a:Nat)(w:W_)(e:Ending)(w':W_):Prop:=e=.returned (.int .u8 a)/\PW w pb s j w'
theorem A7n(n:Nat)(a:n<256):∃q:Int,Hid (∀W,Calls prog 170 #[.string ⟨#[92,46,91,93,40,41,124,42,43,63,94,36,45]⟩,.int .u8 n] W (λe w'=>e=.returned (.int .i64 q)/\W=w'))/\(0<=q↔UInt8.ofNat n∈X0):=by
 refine⟨_,hid (λW=>(A9n _ _ W).mono ?_),B1U ⟨n,a⟩⟩;rintro e w'⟨rfl,rfl⟩;exact⟨rfl,rfl⟩
theorem B4l{ev:V_}{pb:Nat}{s:B_}{i:Nat}(w:W_)(h:T9 ev pb s i w)(c:s.data.toList[i]?=none):
 Calls prog 211 #[.pointer (some ⟨pb,0,none⟩)] w (PS w pb s.size):=by
 have f:=h.pw.c1;have b:=hid (A36 w h.pw h.sz h.le c);clear h c;unfold PS at *;go_enter func211,ntmps211
 go_wp2_with (first
  | (go_at_call 220;refine b.out.mono ?_;rintro e d⟨rfl,a⟩))
 exact⟨rfl,rfl,a⟩
theorem A6b{ev:V_}{pb:Nat}{s:B_}{i:Nat}(w:W_)(h:T9 ev pb s i w){c:U_}(g:s.data.toList[i]?=some c)(a:c≠92)(z:32<=c.toNat)(y:c.toNat<=126)(l:c∉X0):
 Calls prog 211 #[.pointer (some ⟨pb,0,none⟩)] w (z8 pb s (i+1) c.toNat w):=by
 have A:=h.pw.c1;have d:=hid (T4 w h.pw h.sz g);obtain⟨q,o,f⟩:=A7n c.toNat c.toNat_lt
 have m:q<0:=by
  have t:¬(0<=q):=λh=>l (by simpa using f.1 h)
  omega
 have r:((c.toNat:Int) !=92)=true:=by
  have:c.toNat≠92:=λe=>a (UInt8.toNat_inj.1 e)
  simp;omega
 clear h g a l f;generalize c.toNat=n at *;unfold z8;go_enter func211,ntmps211
 go_wp2_with (first
  | (go_at_call 220;refine d.out.mono ?_;rintro e p⟨rfl,b⟩)
  | (go_at_call 170;refine(o.out _).mono ?_;rintro e w'⟨rfl,rfl⟩))
 go_ret;exact⟨rfl,b⟩
theorem B65{ev:V_}{pb:Nat}{s:B_}{i:Nat}(w:W_)(h:T9 ev pb s i w){c:U_}(d:s.data.toList[i]?=some c)(m:c.toNat<32):
 Calls prog 211 #[.pointer (some ⟨pb,0,none⟩)] w (PS w pb i):=by
 have o:=h.pw.c1;have b:=hid (T4 w h.pw h.sz d)
 have l:((c.toNat:Int) !=92)=true:=by
  have:c.toNat≠92:=by omega
  simp;omega
 have g:(c.toNat:Int)<32:=by omega
 clear h d;generalize c.toNat=n at *;unfold PS A1A;go_enter func211,ntmps211
 go_wp2_with (first
  | (go_at_call 220;refine b.out.mono ?_;rintro e f⟨rfl,a⟩))
 exact⟨rfl,rfl,a.grow⟩
theorem B4m{ev:V_}{pb:Nat}{s:B_}{i:Nat}(w:W_)(h:T9 ev pb s i w){c:U_}(d:s.data.toList[i]?=some c)(m:126<c.toNat):
 Calls prog 211 #[.pointer (some ⟨pb,0,none⟩)] w (PS w pb i):=by
 have o:=h.pw.c1;have b:=hid (T4 w h.pw h.sz d)
 have l:((c.toNat:Int) !=92)=true:=by
  have:c.toNat≠92:=by omega
  simp;omega
 have g:(126:Int)<(c.toNat:Int):=by omega
 clear h d;generalize c.toNat=n at *;unfold PS A1A;go_enter func211,ntmps211
 go_wp2_with (first
  | (go_at_call 220;refine b.out.mono ?_;rintro e f⟨rfl,a⟩))
 exact⟨rfl,rfl,a.grow⟩
theorem A8g{ev:V_}{pb:Nat}{s:B_}{i:Nat}(w:W_)(h:T9 ev pb s i w){c:U_}(g:s.data.toList[i]?=some c)(a:c≠92)(y:32<=c.toNat)(t:c.toNat<=126)(l:c∈X0):
 Calls prog 211 #[.pointer (some ⟨pb,0,none⟩)] w (PS w pb i):=by
 have z:=h.pw.c1;have d:=hid (T4 w h.pw h.sz g);obtain⟨q,o,f⟩:=A7n c.toNat c.toNat_lt;have m:0<=q:=f.2 (by simpa using l)
 have r:((c.toNat:Int) !=92)=true:=by
  have:c.toNat≠92:=λe=>a (UInt8.toNat_inj.1 e)
  simp;omega
 clear a l f;clear h g;generalize c.toNat=n at *;unfold PS A1A;go_enter func211,ntmps211
 go_wp2_with (first
  | (go_at_call 220;refine d.out.mono ?_;rintro e p⟨rfl,b⟩)
  | (go_at_call 170;refine(o.out _).mono ?_;rintro e w'⟨rfl,rfl⟩))
 exact⟨rfl,rfl,b.grow⟩
theorem B0P{ev:V_}{pb:Nat}{s:B_}{i:Nat}(w:W_)(h:T9 ev pb s i w)(d:s.data.toList[i]?=some 92)(l:s.data.toList[i+1]?=none):
 Calls prog 211 #[.pointer (some ⟨pb,0,none⟩)] w (PS w pb s.size):=by
 have o:=h.pw.c1;obtain⟨n,_⟩:=P9 d;have g:Hid (Calls prog 220 #[.pointer (some ⟨pb,0,none⟩)] w (Q9 pb s i 92 w)):=hid (T4 w h.pw h.sz d);have f:=hid (λb (h1:PW w pb s (i+1) b)=>A36 b h1.here h.sz (by omega) l);clear h d l;unfold PS at *;go_enter func211,ntmps211
 go_wp2_with (first
  | (go_at_call 220;refine g.out.mono ?_;rintro e b⟨rfl,a⟩)
  | (go_at_call 220;refine(f.out b a).mono ?_;rintro e m⟨rfl,c⟩))
 exact⟨rfl,rfl,a.grow.trans c⟩
theorem A58{ev:V_}{pb:Nat}{s:B_}{i:Nat}(w:W_)(h:T9 ev pb s i w)(f:s.data.toList[i]?=some 92){d:U_}(p:s.data.toList[i+1]?=some d)(m:d≠120)(r:d∈X0):
 Calls prog 211 #[.pointer (some ⟨pb,0,none⟩)] w (z8 pb s (i+2) d.toNat w):=by
 have C:=h.pw.c1;obtain⟨A,_⟩:=P9 f;have l:Hid (Calls prog 220 #[.pointer (some ⟨pb,0,none⟩)] w (Q9 pb s i 92 w)):=hid (T4 w h.pw h.sz f);have g:=hid (λb (h1:PW w pb s (i+1) b)=>T4 b h1.here h.sz p);obtain⟨q,y,o⟩:=A7n d.toNat d.toNat_lt;have t:0<=q:=o.2 (by simpa using r)
 have B:((d.toNat:Int)==120)=false:=by
  have:d.toNat≠120:=λe=>m (UInt8.toNat_inj.1 e)
  simp;omega
 clear h f p m r o;generalize d.toNat=n at *;unfold z8;go_enter func211,ntmps211
 go_wp2_with (first
  | (go_at_call 220;refine l.out.mono ?_;rintro e b⟨rfl,a⟩)
  | (go_at_call 220;refine(g.out b a).mono ?_;rintro e z⟨rfl,c⟩)
  | (go_at_call 170;refine(y.out _).mono ?_;rintro e w'⟨rfl,rfl⟩))
 go_ret;exact⟨rfl,a.trans c⟩
theorem B2o{ev:V_}{pb:Nat}{s:B_}{i:Nat}(w:W_)(h:T9 ev pb s i w)(f:s.data.toList[i]?=some 92){d:U_}(p:s.data.toList[i+1]?=some d)(m:d≠120)(r:d∉X0):
 Calls prog 211 #[.pointer (some ⟨pb,0,none⟩)] w (PS w pb i):=by
 have D:=h.pw.c1;obtain⟨A,_⟩:=P9 f;have l:Hid (Calls prog 220 #[.pointer (some ⟨pb,0,none⟩)] w (Q9 pb s i 92 w)):=hid (T4 w h.pw h.sz f);have g:=hid (λb (h1:PW w pb s (i+1) b)=>T4 b h1.here h.sz p);obtain⟨q,y,o⟩:=A7n d.toNat d.toNat_lt
 have t:q<0:=by
  have C:¬(0<=q):=λh=>r (by simpa using o.1 h)
  omega
 have B:((d.toNat:Int)==120)=false:=by
  have:d.toNat≠120:=λe=>m (UInt8.toNat_inj.1 e)
  simp;omega
 clear h f p m r o;generalize d.toNat=n at *;unfold PS A1A;go_enter func211,ntmps211
 go_wp2_with (first
  | (go_at_call 220;refine l.out.mono ?_;rintro e b⟨rfl,a⟩)
  | (go_at_call 220;refine(g.out b a).mono ?_;rintro e z⟨rfl,c⟩)
  | (go_at_call 170;refine(y.out _).mono ?_;rintro e w'⟨rfl,rfl⟩))
 exact⟨rfl,rfl,(a.trans c).grow⟩
theorem A5I{ev:V_}{pb:Nat}{s:B_}{i:Nat}(w:W_)(h:T9 ev pb s i w)(l:s.data.toList[i]?=some 92)(p:s.data.toList[i+1]?=some 120){k:Nat}(d:∀c,PW w pb s (i+2) c->Calls prog 221 #[.pointer (some ⟨pb,0,none⟩),.int .i64 i] c (PS c pb k)):
 Calls prog 211 #[.pointer (some ⟨pb,0,none⟩)] w (PS w pb k):=by
 have y:=h.pw.c1;obtain⟨t,_⟩:=P9 l;have o:Hid (Calls prog 220 #[.pointer (some ⟨pb,0,none⟩)] w (Q9 pb s i 92 w)):=hid (T4 w h.pw h.sz l);have n:Hid (∀a,PW w pb s (i+1) a->Calls prog 220 #[.pointer (some ⟨pb,0,none⟩)] a (Q9 pb s (i+1) 120 a)):=hid (λa q=>T4 a q.here h.sz p);have m:=hid d;clear h l p d;unfold PS at *;go_enter func211,ntmps211
 go_wp2_with (first
  | (go_at_call 220;refine o.out.mono ?_;rintro e a⟨rfl,b⟩)
  | (go_at_call 220;refine(n.out a b).mono ?_;rintro e c⟨rfl,f⟩)
  | (go_at_call 221;refine(m.out c (b.trans f)).mono ?_;rintro e r⟨rfl,g⟩))
 exact⟨rfl,rfl,(b.trans f).grow.trans g⟩
theorem A5H{ev:V_}{pb:Nat}{s:B_}{i:Nat}(w:W_)(h:T9 ev pb s i w)(p:s.data.toList[i]?=some 92)(z:s.data.toList[i+1]?=some 120){k:Nat}{a:Nat}(m:∀g,PW w pb s (i+2) g->Calls prog 221 #[.pointer (some ⟨pb,0,none⟩),.int .i64 i] g (A9o pb s (i+2) a g))(l:∀f,PW w pb s (i+3) f->Calls prog 221 #[.pointer (some ⟨pb,0,none⟩),.int .i64 i] f (PS f pb k)):
 Calls prog 211 #[.pointer (some ⟨pb,0,none⟩)] w (PS w pb k):=by
 have D:=h.pw.c1;obtain⟨C,_⟩:=P9 p;have y:Hid (Calls prog 220 #[.pointer (some ⟨pb,0,none⟩)] w (Q9 pb s i 92 w)):=hid (T4 w h.pw h.sz p);have t:Hid (∀c,PW w pb s (i+1) c->Calls prog 220 #[.pointer (some ⟨pb,0,none⟩)] c (Q9 pb s (i+1) 120 c)):=hid (λc A=>T4 c A.here h.sz z);have r:=hid m;have q:=hid l;clear h p z m l;unfold PS at *;go_enter func211,ntmps211
 go_wp2_with (first
  | (go_at_call 220;refine y.out.mono ?_;rintro e c⟨rfl,b⟩)
  | (go_at_call 220;refine(t.out c b).mono ?_;rintro e g⟨rfl,d⟩)
  | (go_at_call 221;refine(r.out g (b.trans d)).mono ?_;rintro e f⟨rfl,n⟩)
  | (go_at_call 221;refine(q.out f ((b.trans d).trans n)).mono ?_;rintro e B⟨rfl,o⟩))
 exact⟨rfl,rfl,((b.trans d).trans n).grow.trans o⟩
theorem B4k{ev:V_}{pb:Nat}{s:B_}{i:Nat}(w:W_)(h:T9 ev pb s i w)(q:s.data.toList[i]?=some 92)(A:s.data.toList[i+1]?=some 120){b:Nat}{a:Nat}(n:∀l,PW w pb s (i+2) l->Calls prog 221 #[.pointer (some ⟨pb,0,none⟩),.int .i64 i] l (A9o pb s (i+2) a l))(m:∀g,PW w pb s (i+3) g->Calls prog 221 #[.pointer (some ⟨pb,0,none⟩),.int .i64 i] g (A9o pb s (i+3) b g))(D:a<16)(C:b<16):
 Calls prog 211 #[.pointer (some ⟨pb,0,none⟩)] w (z8 pb s (i+4) (a*16+b) w):=by
 have H:=h.pw.c1;obtain⟨G,_⟩:=P9 q;have z:Hid (Calls prog 220 #[.pointer (some ⟨pb,0,none⟩)] w (Q9 pb s i 92 w)):=hid (T4 w h.pw h.sz q);have y:Hid (∀d,PW w pb s (i+1) d->Calls prog 220 #[.pointer (some ⟨pb,0,none⟩)] d (Q9 pb s (i+1) 120 d)):=hid (λd E=>T4 d E.here h.sz A);have t:=hid n;have r:=hid m;have B:=B8f ⟨a,D⟩ ⟨b,C⟩;clear h q A n m;unfold z8;go_enter func211,ntmps211
 go_wp2_with (first
  | (go_at_call 220;refine z.out.mono ?_;rintro e d⟨rfl,c⟩)
  | (go_at_call 220;refine(y.out d c).mono ?_;rintro e l⟨rfl,f⟩)
  | (go_at_call 221;refine(t.out l (c.trans f)).mono ?_;rintro e g⟨rfl,o⟩)
  | (go_at_call 221;refine(r.out g ((c.trans f).trans o)).mono ?_;rintro e F⟨rfl,p⟩))
 go_ret;exact⟨by rw[Int.natCast_add,Int.natCast_mul];rfl,((c.trans f).trans o).trans p⟩
theorem A2w{ev:V_}{pb:Nat}{s:B_}{i:Nat}(w:W_)(h:T9 ev pb s i w):
 Calls prog 211 #[.pointer (some ⟨pb,0,none⟩)] w (RdB (D4 s.data.toList i) pb s w):=by
 have m6:∀a j,D4 s.data.toList i=.ok a j->Calls prog 211 #[.pointer (some ⟨pb,0,none⟩)] w (z8 pb s j a w)->Calls prog 211 #[.pointer (some ⟨pb,0,none⟩)] w (RdB (D4 s.data.toList i) pb s w):=λa j p g=>g.mono λe w' z=>.inl ⟨a,j,p,z.1,z.2⟩
 have f:∀k,D4 s.data.toList i=.bad k->Calls prog 211 #[.pointer (some ⟨pb,0,none⟩)] w (PS w pb k)->Calls prog 211 #[.pointer (some ⟨pb,0,none⟩)] w (RdB (D4 s.data.toList i) pb s w):=λk p g=>g.mono λe w' z=>.inr ⟨k,p,z⟩
 have n:s.data.toList.length=s.size:=O7 s;cases hc:s.data.toList[i]? with
 | none=>exact f _ (by unfold D4;rw[hc,n]) (B4l w h hc)
 | some c =>
   by_cases h92:c=92
   .subst h92
    cases hd:s.data.toList[i+1]? with
    | none=>exact f _ (by unfold D4;rw[hc];simp only[if_true];rw[hd,n]) (B0P w h hc hd)
    | some d =>
      by_cases hx:d=120
      .subst hx
       have m:D4 s.data.toList i=A0P s.data.toList i:=by unfold D4;rw[hc];simp only[if_true];rw[hd];simp only[if_true]
       have t:=P9 hd;have hi3':i+1<s.size:=t.1;cases g:s.data.toList[i+2]? with
       | none=>exact f _ (by rw[m];unfold A0P;rw[g,n]) (A5I w h hc hd λo l=>A8u o l.here h.sz (by omega) g i)
       | some x =>
         obtain⟨A,_⟩:=P9 g;cases hv:A1M x with
         | none=>exact f i (by rw[m];unfold A0P;rw[g];simp only[hv]) (A5I w h hc hd λo l=>B1n o l.here h.sz g hv i ev (h.next l (by omega)).ev h.ne)
         | some a =>
           cases h3:s.data.toList[i+3]? with
           | none=>exact f _ (by rw[m];unfold A0P;rw[g];simp only[hv];rw[h3,n]) (A5H w h hc hd (λo l=>A7b o l.here h.sz g hv i) λr l=>A8u r l.here h.sz (by omega) h3 i)
           | some y =>
             obtain⟨t,_⟩:=P9 h3;cases hv2:A1M y with
             | none=>exact f i (by rw[m];unfold A0P;rw[g];simp only[hv];rw[h3];simp only[hv2]) (A5H w h hc hd (λo l=>A7b o l.here h.sz g hv i) λr l=>B1n r l.here h.sz h3 hv2 i ev (h.next l (by omega)).ev h.ne)
             | some b=>exact m6 _ _ (by rw[m];unfold A0P;rw[g];simp only[hv];rw[h3];simp only[hv2]) (B4k w h hc hd (λo l=>A7b o l.here h.sz g hv i) (λr l=>A7b r l.here h.sz h3 hv2 i) (A0x hv) (A0x hv2))
      .by_cases h3:d∈X0
       .exact m6 _ _ (by unfold D4;rw[hc];simp only[if_true];rw[hd];simp only[if_neg hx,if_pos h3]) (A58 w h hc hd hx h3)
       .exact f _ (by unfold D4;rw[hc];simp only[if_true];rw[hd];simp only[if_neg hx,if_neg h3]) (B2o w h hc hd hx h3)
   .by_cases p:c.toNat<32
    .exact f _ (by unfold D4;rw[hc];simp only[if_neg h92,if_pos (show c.toNat<32\/126<c.toNat\/c∈X0 from .inl p)]) (B65 w h hc p)
    .by_cases g:126<c.toNat
     .exact f _ (by unfold D4;rw[hc];simp only[if_neg h92,if_pos (show c.toNat<32\/126<c.toNat\/c∈X0 from .inr (.inl g))]) (B4m w h hc g)
     .by_cases h3:c∈X0
      .exact f _ (by unfold D4;rw[hc];simp only[if_neg h92,if_pos (show c.toNat<32\/126<c.toNat\/c∈X0 from .inr (.inr h3))]) (A8g w h hc h92 (by omega) (by omega) h3)
      .exact m6 _ _ (by unfold D4;rw[hc];simp only[if_neg h92];rw[if_neg (by rintro (q | q | q);exact p q;exact g q;exact h3 q)]) (A6b w h hc h92 (by omega) (by omega) h3)
