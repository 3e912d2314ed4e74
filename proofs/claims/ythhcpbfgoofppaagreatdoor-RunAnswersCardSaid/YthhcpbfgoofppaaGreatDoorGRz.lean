import Derived.Test.YthhcpbfgoofppaaGreatDoorGRx
set_option linter.unusedVariables false
set_option linter.unusedSimpArgs false
open Wf
set_option maxRecDepth 100000
set_option maxHeartbeats 8000000
open Go.Lib (hid)
open Go.Proofs.Tryz hiding parts
namespace Go.Proofs.YthhcpbfgoofppaaGreatDoor.setW
open Go.RowKit Wf
theorem B20(B b:Nat)(m:SS)(T:List Mr)(A:V_)(w:W_)(h:M1 B b m T A w)(Q:LibE B w)(n:m.small 3000):
 Calls prog 10 #[.agg #[.pointer (some ⟨b,0,none⟩)],.string ⟨#[108,105,115,116]⟩] w (j4 (T2 (D3 (m.ms.map S7))) B b (m) w):=by
 have aa:=mkf;have q:=hid (D7.start h Q);have ad:=h.hBw;unfold j4;have j:Hid (∀r y,Hid (D7 B b m w r)->Below r.heap.size r y->Hid (D7 B b m w y)):=hid λr y a b=>hid (a.out.below b)
 have G:=n.last
 have N:Hid (∀W,Hid (D7 B b m w W)->Calls prog 17 #[.pointer (some ⟨b,0,none⟩)] W (λe w'=>∃v:V_,e=.returned v/\Rd w' 2 v (m.ms.flatMap M2)/\Below W.heap.size W w')):=hid λW s=>by
  obtain⟨g,O,E⟩:=s.out.set;refine(B6T B b m g O W E).mono ?_;rintro e w'⟨v,rfl,Z,hb⟩;exact⟨v,rfl,Rd.of_own Z,hb⟩
 have d:m.ms.length<=4812:=by have:=h.ok.len;omega
 have c:=h.ok.pos
 have HW:Hid (∀W v,Hid (D7 B b m w W)->Hid (Rd W 2 v (m.ms.flatMap M2))->Calls prog 16 #[v,.func (.func 18) #[.agg #[.pointer (some ⟨b,0,none⟩)]] #[]] W (λe w'=>∃t:B_,e=.returned (.string t)/\t.data.toList=T2 (D3 (m.ms.map S7))/\Below W.heap.size W w')):=hid λW v s F=>A71 m.ms d 205 (by omega) S7 (λx V=>⟨by simp[S7];omega,A6s (by have:=(c x V).2;omega)⟩) b v W F.out (hid λk x hk W' o=>by
  obtain⟨g,O,E⟩:=(s.out.below o).set;exact A4A B b m g O W' E (s.out.below o).lib (by omega) k x hk)
 have HS:Hid (∀w',Hid (D7 B b m w w'\/∃(w0:W_)(t:B_),w'=w0.setCell ⟨w.heap.size+1,0,none⟩ (.string t)/\D7 B b m w w0)->(w'.cell? ⟨w.heap.size,0,none⟩=some (.pointer (some ⟨b,0,none⟩))/\Hid (D7 B b m w w'\/∃(w0:W_)(t:B_),w'=w0.setCell ⟨w.heap.size+1,0,none⟩ (.string t)/\D7 B b m w w0))):=hid λw' P=>⟨by
  rcases P.out with h1|⟨w0,t,rfl,h1⟩
  .exact h1.cellS
  .have:=(h1.ses.far (p:=⟨w.heap.size+1,0,none⟩) (show w.heap.size≠w.heap.size+1 by omega) (.string t)).cell 0
   simpa using this,P⟩
 generalize T2 (D3 (m.ms.map S7))=R at *;have aj:=q;have ai:=j.out _ _ q br_.drew;clear h Q n d c
 go_enter_defers func10,ntmps10
 go_wp2_with fail
 go_region_held3 (λw'=>w'.cell? ⟨w.heap.size,0,none⟩=some (.pointer (some ⟨b,0,none⟩))/\Hid (D7 B b m w w'\/∃(w0:W_)(t:B_),w'=w0.setCell ⟨w.heap.size+1,0,none⟩ (.string t)/\D7 B b m w w0))
  (exact HS.out _ (by first | exact hid (.inl (Hid.out (by assumption))) | exact hid (.inr ⟨_,_,rfl,Hid.out (by assumption)⟩)))
  (first
    | (go_at_call 17;refine(N.out _ (by assumption)).mono ?_;rintro e w5⟨v,rfl,F,M⟩;have ab:=j.out _ _ (by assumption) M;have Y:=hid F)
    | (go_at_call 16;refine(HW.out _ _ (by assumption) (by assumption)).mono ?_;rintro e w6⟨t,rfl,X,L⟩;have i:=j.out _ _ (by assumption) L;have C:=hid X;have c6:=i.out.cell;have z6:=i.out.frozen))
 all_goals
  go_wp2_with fail;refine leaves_cons (f:=15) (args:=#[.pointer (some ⟨w.heap.size+1,0,none⟩)]) (by simp) (by simp[go_sem]) ?_;refine(A5 _ _).mono ?_;rintro e u' S⟨rfl,rfl,J⟩;obtain⟨c9,z,A9,D,H⟩:=i.out.fin t S J;simp[Leaves,settle,results,results10,go_sem,c9];exact⟨C.out,⟨z,A9,D⟩,H⟩
theorem A8m(B b:Nat)(m:SS)(ml:List Mr)(A:V_)(s:B_)(X:NL s)(rb:B_)(O:O4 32 s.data.toList=some ((⟨#[114,101,109,111,118,101]⟩:B_).data.toList,rb.data.toList))(n:Nat)(Z:F9 rb.data.toList=some n)(w:W_)(h:M1 B b m ml A w)(hl:LibE B w)(G:m.small 3000):
 Calls prog 10 #[.agg #[.pointer (some ⟨b,0,none⟩)],.string s] w (j4 (D6 A1d 0 (m.removed (n:Int)).toNat) B b (m.remove (n:Int)) w):=by
 have ah:=mkf;have V:=hid (D7.start h hl);have al:=h.hBw;unfold j4;obtain⟨L,e1,e2,e3,e4⟩:=X.at;clear X;have hz:=A0K O;have HC:=hid λW=>l7 s _ rb L O W
 clear O;have z:Hid (∀c j,Hid (D7 B b m w c)->Below c.heap.size c j->Hid (D7 B b m w j)):=hid λc j a b=>hid (a.out.below b)
 have HN:Hid (∀W,Hid (D7 B b m w W)->Calls prog 25 #[.string rb] W (λe w'=>e=.returned (.int .i64 n)/\Below W.heap.size W w')):=hid λW o=>A18 rb (by omega) n Z W o.out.lib.tab
 have M:0<=m.removed (n:Int)/\m.removed (n:Int)<=6:=by unfold SS.removed;split <;> decide
 have q:m.removed (n:Int)=(((m.removed (n:Int)).toNat:Nat):Int):=by omega
 have i:(m.removed (n:Int)).toNat<=6:=by omega
 have HR:Hid (∀W,Hid (D7 B b m w W)->Calls prog 24 #[.pointer (some ⟨b,0,none⟩),.int .i64 n] W (λe w'=>e=.returned (m7 (m.removed (n:Int)))/\D7 B b (m.remove (n:Int)) w w')):=hid λW o=>by
  obtain⟨E,A',L⟩:=o.out.set;refine(B09 B b m E A' (n:Int) W L).mono ?_;rintro e w'⟨rfl,D,A2,J,hk⟩;exact⟨rfl,o.out.next ⟨D,A2,J⟩ hk⟩
 rw[q] at HR;have T:Hid (∀W,Hid (D7 B b (m.remove (n:Int)) w W)->Calls prog 23 #[.string ⟨#[111,107]⟩,.int .i64 0,m7 (((m.removed (n:Int)).toNat:Nat):Int)] W (λe w'=>∃t:B_,e=.returned (.string t)/\t.data.toList=D6 A1d 0 (m.removed (n:Int)).toNat/\Below W.heap.size W w')):=hid λW o=>A3z ⟨#[111,107]⟩ 0 (m.removed (n:Int)).toNat i (by omega) W o.out.lib.err o.out.lib.tab
 generalize D6 A1d 0 (m.removed (n:Int)).toNat=R at *;generalize m7 (((m.removed (n:Int)).toNat:Nat):Int)=EV at *;generalize m.remove (n:Int)=m2 at *;have y:Hid (∀c j,Hid (D7 B b m2 w c)->Below c.heap.size c j->Hid (D7 B b m2 w j)):=hid λc j a b=>hid (a.out.below b)
 have HS:Hid (∀w',Hid (D7 B b m w w'\/D7 B b m2 w w'\/∃(w0:W_)(t:B_),w'=w0.setCell ⟨w.heap.size+1,0,none⟩ (.string t)/\D7 B b m2 w w0)->(w'.cell? ⟨w.heap.size,0,none⟩=some (.pointer (some ⟨b,0,none⟩))/\Hid (D7 B b m w w'\/D7 B b m2 w w'\/∃(w0:W_)(t:B_),w'=w0.setCell ⟨w.heap.size+1,0,none⟩ (.string t)/\D7 B b m2 w w0))):=hid λw' Y=>⟨by
  rcases Y.out with h1|h1|⟨w0,t,rfl,h1⟩
  .exact h1.cellS
  .exact h1.cellS
  .have:=(h1.ses.far (p:=⟨w.heap.size+1,0,none⟩) (show w.heap.size≠w.heap.size+1 by omega) (.string t)).cell 0
   simpa using this,Y⟩
 clear h hl G M q i Z
 go_enter_defers func10,ntmps10
 go_wp2_with fail;refine(HC.out _).mono ?_;rintro e c⟨rfl,r⟩;have d:=hid (V.out.below r);have c1:=d.out.cell;have z1:=d.out.frozen;have s1:=d.out.cellS;clear r;go_wp2_with fail;have ar:=z.out _ _ d br_.drew;clear c1 z1 s1
 go_region_held3 (λw'=>w'.cell? ⟨w.heap.size,0,none⟩=some (.pointer (some ⟨b,0,none⟩))/\Hid (D7 B b m w w'\/D7 B b m2 w w'\/∃(w0:W_)(t:B_),w'=w0.setCell ⟨w.heap.size+1,0,none⟩ (.string t)/\D7 B b m2 w w0))
  (exact HS.out _ (by first | exact hid (.inl (Hid.out (by assumption))) | exact hid (.inr (.inl (Hid.out (by assumption)))) | exact hid (.inr (.inr ⟨_,_,rfl,Hid.out (by assumption)⟩))))
  (first
    | (go_at_call 25;refine(HN.out _ (by assumption)).mono ?_;rintro e w5⟨rfl,S⟩;have aj:=z.out _ _ (by assumption) S)
    | (go_at_call 24;refine(HR.out _ (by assumption)).mono ?_;rintro e w6⟨rfl,g⟩;have ai:=hid g;clear g)
    | (go_at_call 23;refine(T.out _ (by assumption)).mono ?_;rintro e w7⟨t,rfl,ht,Q⟩;have k:=y.out _ _ (by assumption) Q;have F:=hid ht;have c7:=k.out.cell;have z7:=k.out.frozen))
 all_goals
  go_wp2_with fail;refine leaves_cons (f:=15) (args:=#[.pointer (some ⟨w.heap.size+1,0,none⟩)]) (by simp) (by simp[go_sem]) ?_;refine(A5 _ _).mono ?_;rintro e u' w9⟨rfl,rfl,P⟩;obtain⟨c9,C,A9,H,N⟩:=k.out.fin t w9 P;simp[Leaves,settle,results,results10,go_sem,c9];exact⟨F.out,⟨C,A9,H⟩,N⟩
theorem A6B(B b:Nat)(m:SS)(Y:List Mr)(A:V_)(s:B_)(R:NL s)(rb:B_)(O:O4 32 s.data.toList=some ((⟨#[114,101,109,111,118,101]⟩:B_).data.toList,rb.data.toList))(S:F9 rb.data.toList=none)(w:W_)(h:M1 B b m Y A w)(T:LibE B w)(L:m.small 3000):
 Calls prog 10 #[.agg #[.pointer (some ⟨b,0,none⟩)],.string s] w (j4 (A2t) B b (m) w):=by
 have aa:=mkf;have Q:=hid (D7.start h T);have ab:=h.hBw;unfold j4;obtain⟨Z,e1,e2,e3,e4⟩:=R.at;clear R;have hz:=A0K O;have HC:=hid λW=>l7 s _ rb Z O W
 clear O
 have E:Hid (∀W,D7 B b m w W->Calls prog 25 #[.string rb] W (λe w'=>e=.panicked [{ v:=A1X,recovered:=false }]/\Below W.heap.size W w')):=hid λW P=>by
  obtain⟨ev,N⟩:=P.lib.syn;obtain⟨rv,M⟩:=P.lib.rng;exact A4V rb (by omega) S W P.lib.tab N M
 have r:=hid λ(W W2:W_)(h0:Below w.heap.size w W) (hb:Below (w.heap.size+1) W W2)=>D7.bad h h0 W2 hb
 have J:Hid (Below w.heap.size w ((w.alloc (.cells #[.pointer (some ⟨b,0,none⟩)] 28)).alloc (.cells #[.string ⟨#[]⟩] 9))):=hid (ba_.alloc (by simp) _);clear h T L S
 go_enter_defers func10,ntmps10
 go_wp2_with fail;refine(HC.out _).mono ?_;rintro e w1⟨rfl,D⟩;have C:=hid (Q.out.below D);have c1:=C.out.cell;have V:=C.out.frozen;have X:=C.out.cellS;have H:=hid (J.out.trans (D.mono J.out.size));clear D;go_wp2_with fail;have g:=hid (C.out.below br_.drew);have i:=hid (H.out.trans (br_.drew.mono H.out.size));have s2:=g.out.cellS;clear c1 V X;refine wp_region_any (by kernel_rfl) ?_;change wpAny _ _ _ _ _ _ _ (World.drew _);refine wpAny_ready (rs:=[0,2]) (by kernel_rfl) (by simp) ?_;refine AllReady.cons rfl (λK d=>?_) (AllReady.cons rfl (λK d=>?_) AllReady.nil)
 .go_simp
  refine d _ _ ?_;clear d K;refine wpAny_ready (rs:=[1,2]) (by kernel_rfl) (by simp) ?_;refine AllReady.cons rfl (λK d=>?_) (AllReady.cons rfl (λK d=>?_) AllReady.nil)
  .go_simp
   refine d _ _ ?_;clear d K;refine wpAny_ready (rs:=[2]) (by kernel_rfl) (by simp) ?_;refine AllReady.cons rfl (λK d=>?_) AllReady.nil
   .go_simp
    refine d _ _ ?_;clear d K;refine wpAny_ready (rs:=[3]) (by kernel_rfl) (by simp) ?_;refine AllReady.cons rfl (λK d=>?_) AllReady.nil
    .go_simp
     go_wp2_with (go_at_call 25;refine(E.out _ g.out).mono ?_;rintro e F⟨rfl,a⟩)
     have c:=(g.out.below a).out;refine leaves_cons (f:=15) (args:=#[.pointer (some ⟨w.heap.size+1,0,none⟩)]) (by simp) (by simp[go_sem]) ?_;refine(o3 (w.heap.size+1) _ _ c).mono ?_;rintro e G y⟨rfl,rfl,q,k⟩;have t:=q.cell 0;simp only[List.getElem?_toArray,List.getElem?_cons_zero] at t;obtain⟨j,z,n,o⟩:=r.out _ y (i.out.trans (a.mono i.out.size)) k;simp[Leaves,settle,results,results10,go_sem,t];exact⟨rfl,⟨j,z,n⟩,o⟩
  .go_simp
   refine d _ _ ?_;clear d K;refine wpAny_ready (rs:=[1,3]) (by kernel_rfl) (by simp) ?_;refine AllReady.cons rfl (λK d=>?_) (AllReady.cons rfl (λK d=>?_) AllReady.nil)
   .go_simp
    refine d _ _ ?_;clear d K;refine wpAny_ready (rs:=[3]) (by kernel_rfl) (by simp) ?_;refine AllReady.cons rfl (λK d=>?_) AllReady.nil
    .go_simp
     go_wp2_with (go_at_call 25;refine(E.out _ g.out).mono ?_;rintro e F⟨rfl,a⟩)
     have c:=(g.out.below a).out;refine leaves_cons (f:=15) (args:=#[.pointer (some ⟨w.heap.size+1,0,none⟩)]) (by simp) (by simp[go_sem]) ?_;refine(o3 (w.heap.size+1) _ _ c).mono ?_;rintro e G y⟨rfl,rfl,q,k⟩;have t:=q.cell 0;simp only[List.getElem?_toArray,List.getElem?_cons_zero] at t;obtain⟨j,z,n,o⟩:=r.out _ y (i.out.trans (a.mono i.out.size)) k;simp[Leaves,settle,results,results10,go_sem,t];exact⟨rfl,⟨j,z,n⟩,o⟩
   .go_simp
    go_wp2_with (go_at_call 25;refine(E.out _ g.out).mono ?_;rintro e F⟨rfl,a⟩)
    have c:=(g.out.below a).out;refine leaves_cons (f:=15) (args:=#[.pointer (some ⟨w.heap.size+1,0,none⟩)]) (by simp) (by simp[go_sem]) ?_;refine(o3 (w.heap.size+1) _ _ c).mono ?_;rintro e G y⟨rfl,rfl,q,k⟩;have t:=q.cell 0;simp only[List.getElem?_toArray,List.getElem?_cons_zero] at t;obtain⟨j,z,n,o⟩:=r.out _ y (i.out.trans (a.mono i.out.size)) k;simp[Leaves,settle,results,results10,go_sem,t];exact⟨rfl,⟨j,z,n⟩,o⟩
 .go_simp
  refine d _ _ ?_;clear d K;refine wpAny_ready (rs:=[0,3]) (by kernel_rfl) (by simp) ?_;refine AllReady.cons rfl (λK d=>?_) (AllReady.cons rfl (λK d=>?_) AllReady.nil)
  .go_simp
   refine d _ _ ?_;clear d K;refine wpAny_ready (rs:=[1,3]) (by kernel_rfl) (by simp) ?_;refine AllReady.cons rfl (λK d=>?_) (AllReady.cons rfl (λK d=>?_) AllReady.nil)
   .go_simp
    refine d _ _ ?_;clear d K;refine wpAny_ready (rs:=[3]) (by kernel_rfl) (by simp) ?_;refine AllReady.cons rfl (λK d=>?_) AllReady.nil
    .go_simp
     go_wp2_with (go_at_call 25;refine(E.out _ g.out).mono ?_;rintro e F⟨rfl,a⟩)
     have c:=(g.out.below a).out;refine leaves_cons (f:=15) (args:=#[.pointer (some ⟨w.heap.size+1,0,none⟩)]) (by simp) (by simp[go_sem]) ?_;refine(o3 (w.heap.size+1) _ _ c).mono ?_;rintro e G y⟨rfl,rfl,q,k⟩;have t:=q.cell 0;simp only[List.getElem?_toArray,List.getElem?_cons_zero] at t;obtain⟨j,z,n,o⟩:=r.out _ y (i.out.trans (a.mono i.out.size)) k;simp[Leaves,settle,results,results10,go_sem,t];exact⟨rfl,⟨j,z,n⟩,o⟩
   .go_simp
    go_wp2_with (go_at_call 25;refine(E.out _ g.out).mono ?_;rintro e F⟨rfl,a⟩)
    have c:=(g.out.below a).out;refine leaves_cons (f:=15) (args:=#[.pointer (some ⟨w.heap.size+1,0,none⟩)]) (by simp) (by simp[go_sem]) ?_;refine(o3 (w.heap.size+1) _ _ c).mono ?_;rintro e G y⟨rfl,rfl,q,k⟩;have t:=q.cell 0;simp only[List.getElem?_toArray,List.getElem?_cons_zero] at t;obtain⟨j,z,n,o⟩:=r.out _ y (i.out.trans (a.mono i.out.size)) k;simp[Leaves,settle,results,results10,go_sem,t];exact⟨rfl,⟨j,z,n⟩,o⟩
  .go_simp
   go_wp2_with (go_at_call 25;refine(E.out _ g.out).mono ?_;rintro e F⟨rfl,a⟩)
   have c:=(g.out.below a).out;refine leaves_cons (f:=15) (args:=#[.pointer (some ⟨w.heap.size+1,0,none⟩)]) (by simp) (by simp[go_sem]) ?_;refine(o3 (w.heap.size+1) _ _ c).mono ?_;rintro e G y⟨rfl,rfl,q,k⟩;have t:=q.cell 0;simp only[List.getElem?_toArray,List.getElem?_cons_zero] at t;obtain⟨j,z,n,o⟩:=r.out _ y (i.out.trans (a.mono i.out.size)) k;simp[Leaves,settle,results,results10,go_sem,t];exact⟨rfl,⟨j,z,n⟩,o⟩
theorem B0Y(B b:Nat)(m:SS)(G:List Mr)(A:V_)(s:B_)(z:NL s)(rb:B_)(q:O4 32 s.data.toList=some ((⟨#[112,117,116]⟩:B_).data.toList,rb.data.toList))(d:O4 32 rb.data.toList=none)(w:W_)(h:M1 B b m G A w)(C:LibE B w)(k:m.small 3000):
 Calls prog 10 #[.agg #[.pointer (some ⟨b,0,none⟩)],.string s] w (j4 (A2t) B b (m) w):=by
 have J:=mkf;have t:=hid (D7.start h C);have L:=h.hBw;unfold j4;obtain⟨H,e1,Z,Y,X⟩:=z.at;clear z;have V:=A0K q;have O:=hid λW=>l7 s _ rb H q W
 clear q;have y:=hid λW=>A51 rb (by omega) d W
 clear h C k d
 go_enter_defers func10,ntmps10
 go_wp2_with fail;refine(O.out _).mono ?_;rintro e S⟨rfl,i⟩;have a:=hid (t.out.below i);have N:=a.out.cell;have D:=a.out.frozen;have F:=a.out.cellS;clear i;go_wp2_with fail;refine(y.out _).mono ?_;rintro e R⟨rfl,g⟩;have c:=hid (a.out.below g);have c2:=c.out.cell;have Q:=c.out.frozen;clear g N D F;go_wp2_with fail;refine leaves_cons (f:=15) (args:=#[.pointer (some ⟨w.heap.size+1,0,none⟩)]) (by simp) (by simp[go_sem]) ?_;refine(A5 _ _).mono ?_;rintro e T E⟨rfl,rfl,r⟩;obtain⟨M,j,P,n,o⟩:=c.out.fin ⟨#[98,97,100]⟩ E r;simp[Leaves,settle,results,results10,go_sem,M];exact⟨rfl,⟨j,P,n⟩,o⟩
theorem A8n(B b:Nat)(m:SS)(ml:List Mr)(A:V_)(s:B_)(nl:NL s)(rb:B_)(X:O4 32 s.data.toList=some ((⟨#[112,117,116]⟩:B_).data.toList,rb.data.toList))(F tx:B_)(C:O4 32 rb.data.toList=some (F.data.toList,tx.data.toList))(hn:F9 F.data.toList=none)(w:W_)(h:M1 B b m ml A w)(hl:LibE B w)(S:m.small 3000):
 Calls prog 10 #[.agg #[.pointer (some ⟨b,0,none⟩)],.string s] w (j4 (A2t) B b (m) w):=by
 have ak:=mkf;have aa:=hid (D7.start h hl);have al:=h.hBw;unfold j4;obtain⟨hs,e1,e2,e3,e4⟩:=nl.at;clear nl;have hz:=A0K X;have HC:=hid λW=>l7 s _ rb hs X W
 clear X;have ai:=A0K C
 have ah:F.size<rb.size:=by
  have:=A1n C;have h1:rb.data.toList.length=rb.size:=by simp
  have h2:F.data.toList.length=F.size:=by simp
  omega
 have ab:=hid λW=>l7 rb F tx (by omega) C W
 clear C
 have J:Hid (∀W,D7 B b m w W->Calls prog 25 #[.string F] W (λe w'=>e=.panicked [{ v:=A1X,recovered:=false }]/\Below W.heap.size W w')):=hid λW Y=>by
  obtain⟨ev,V⟩:=Y.lib.syn;obtain⟨rv,T⟩:=Y.lib.rng;exact A4V F (by omega) hn W Y.lib.tab V T
 have r:=hid λ(W W2:W_)(h0:Below w.heap.size w W) (hb:Below (w.heap.size+1) W W2)=>D7.bad h h0 W2 hb
 have P:Hid (Below w.heap.size w ((w.alloc (.cells #[.pointer (some ⟨b,0,none⟩)] 28)).alloc (.cells #[.string ⟨#[]⟩] 9))):=hid (ba_.alloc (by simp) _);clear h hl S hn
 go_enter_defers func10,ntmps10
 go_wp2_with fail;refine(HC.out _).mono ?_;rintro e w1⟨rfl,H⟩;have E:=hid (aa.out.below H);have Z:=E.out.cell;have Q:=E.out.frozen;have R:=E.out.cellS;have O:=hid (P.out.trans (H.mono P.out.size));clear H;go_wp2_with fail;refine(ab.out _).mono ?_;rintro e w2⟨rfl,G⟩;have D:=hid (E.out.below G);clear Z Q R;have Z:=D.out.cell;have Q:=D.out.frozen;have R:=D.out.cellS;have N:=hid (O.out.trans (G.mono O.out.size));clear G;go_wp2_with fail;have g:=hid (D.out.below br_.drew);have i:=hid (N.out.trans (br_.drew.mono N.out.size));have s2:=g.out.cellS;clear Z Q R;refine wp_region_any (by kernel_rfl) ?_;change wpAny _ _ _ _ _ _ _ (World.drew _);refine wpAny_ready (rs:=[0,2]) (by kernel_rfl) (by simp) ?_;refine AllReady.cons rfl (λK d=>?_) (AllReady.cons rfl (λK d=>?_) AllReady.nil)
 .go_simp
  refine d _ _ ?_;clear d K;refine wpAny_ready (rs:=[1,2]) (by kernel_rfl) (by simp) ?_;refine AllReady.cons rfl (λK d=>?_) (AllReady.cons rfl (λK d=>?_) AllReady.nil)
  .go_simp
   refine d _ _ ?_;clear d K;refine wpAny_ready (rs:=[2]) (by kernel_rfl) (by simp) ?_;refine AllReady.cons rfl (λK d=>?_) AllReady.nil
   .go_simp
    refine d _ _ ?_;clear d K;refine wpAny_ready (rs:=[3]) (by kernel_rfl) (by simp) ?_;refine AllReady.cons rfl (λK d=>?_) AllReady.nil
    .go_simp
     go_wp2_with (go_at_call 25;refine(J.out _ g.out).mono ?_;rintro e L⟨rfl,a⟩)
     have c:=(g.out.below a).out;refine leaves_cons (f:=15) (args:=#[.pointer (some ⟨w.heap.size+1,0,none⟩)]) (by simp) (by simp[go_sem]) ?_;refine(o3 (w.heap.size+1) _ _ c).mono ?_;rintro e M y⟨rfl,rfl,q,k⟩;have t:=q.cell 0;simp only[List.getElem?_toArray,List.getElem?_cons_zero] at t;obtain⟨j,z,n,o⟩:=r.out _ y (i.out.trans (a.mono i.out.size)) k;simp[Leaves,settle,results,results10,go_sem,t];exact⟨rfl,⟨j,z,n⟩,o⟩
  .go_simp
   refine d _ _ ?_;clear d K;refine wpAny_ready (rs:=[1,3]) (by kernel_rfl) (by simp) ?_;refine AllReady.cons rfl (λK d=>?_) (AllReady.cons rfl (λK d=>?_) AllReady.nil)
   .go_simp
    refine d _ _ ?_;clear d K;refine wpAny_ready (rs:=[3]) (by kernel_rfl) (by simp) ?_;refine AllReady.cons rfl (λK d=>?_) AllReady.nil
    .go_simp
     go_wp2_with (go_at_call 25;refine(J.out _ g.out).mono ?_;rintro e L⟨rfl,a⟩)
     have c:=(g.out.below a).out;refine leaves_cons (f:=15) (args:=#[.pointer (some ⟨w.heap.size+1,0,none⟩)]) (by simp) (by simp[go_sem]) ?_;refine(o3 (w.heap.size+1) _ _ c).mono ?_;rintro e M y⟨rfl,rfl,q,k⟩;have t:=q.cell 0;simp only[List.getElem?_toArray,List.getElem?_cons_zero] at t;obtain⟨j,z,n,o⟩:=r.out _ y (i.out.trans (a.mono i.out.size)) k;simp[Leaves,settle,results,results10,go_sem,t];exact⟨rfl,⟨j,z,n⟩,o⟩
   .go_simp
    go_wp2_with (go_at_call 25;refine(J.out _ g.out).mono ?_;rintro e L⟨rfl,a⟩)
    have c:=(g.out.below a).out;refine leaves_cons (f:=15) (args:=#[.pointer (some ⟨w.heap.size+1,0,none⟩)]) (by simp) (by simp[go_sem]) ?_;refine(o3 (w.heap.size+1) _ _ c).mono ?_;rintro e M y⟨rfl,rfl,q,k⟩;have t:=q.cell 0;simp only[List.getElem?_toArray,List.getElem?_cons_zero] at t;obtain⟨j,z,n,o⟩:=r.out _ y (i.out.trans (a.mono i.out.size)) k;simp[Leaves,settle,results,results10,go_sem,t];exact⟨rfl,⟨j,z,n⟩,o⟩
 .go_simp
  refine d _ _ ?_;clear d K;refine wpAny_ready (rs:=[0,3]) (by kernel_rfl) (by simp) ?_;refine AllReady.cons rfl (λK d=>?_) (AllReady.cons rfl (λK d=>?_) AllReady.nil)
  .go_simp
   refine d _ _ ?_;clear d K;refine wpAny_ready (rs:=[1,3]) (by kernel_rfl) (by simp) ?_;refine AllReady.cons rfl (λK d=>?_) (AllReady.cons rfl (λK d=>?_) AllReady.nil)
   .go_simp
    refine d _ _ ?_;clear d K;refine wpAny_ready (rs:=[3]) (by kernel_rfl) (by simp) ?_;refine AllReady.cons rfl (λK d=>?_) AllReady.nil
    .go_simp
     go_wp2_with (go_at_call 25;refine(J.out _ g.out).mono ?_;rintro e L⟨rfl,a⟩)
     have c:=(g.out.below a).out;refine leaves_cons (f:=15) (args:=#[.pointer (some ⟨w.heap.size+1,0,none⟩)]) (by simp) (by simp[go_sem]) ?_;refine(o3 (w.heap.size+1) _ _ c).mono ?_;rintro e M y⟨rfl,rfl,q,k⟩;have t:=q.cell 0;simp only[List.getElem?_toArray,List.getElem?_cons_zero] at t;obtain⟨j,z,n,o⟩:=r.out _ y (i.out.trans (a.mono i.out.size)) k;simp[Leaves,settle,results,results10,go_sem,t];exact⟨rfl,⟨j,z,n⟩,o⟩
   .go_simp
    go_wp2_with (go_at_call 25;refine(J.out _ g.out).mono ?_;rintro e L⟨rfl,a⟩)
    have c:=(g.out.below a).out;refine leaves_cons (f:=15) (args:=#[.pointer (some ⟨w.heap.size+1,0,none⟩)]) (by simp) (by simp[go_sem]) ?_;refine(o3 (w.heap.size+1) _ _ c).mono ?_;rintro e M y⟨rfl,rfl,q,k⟩;have t:=q.cell 0;simp only[List.getElem?_toArray,List.getElem?_cons_zero] at t;obtain⟨j,z,n,o⟩:=r.out _ y (i.out.trans (a.mono i.out.size)) k;simp[Leaves,settle,results,results10,go_sem,t];exact⟨rfl,⟨j,z,n⟩,o⟩
  .go_simp
   go_wp2_with (go_at_call 25;refine(J.out _ g.out).mono ?_;rintro e L⟨rfl,a⟩)
   have c:=(g.out.below a).out;refine leaves_cons (f:=15) (args:=#[.pointer (some ⟨w.heap.size+1,0,none⟩)]) (by simp) (by simp[go_sem]) ?_;refine(o3 (w.heap.size+1) _ _ c).mono ?_;rintro e M y⟨rfl,rfl,q,k⟩;have t:=q.cell 0;simp only[List.getElem?_toArray,List.getElem?_cons_zero] at t;obtain⟨j,z,n,o⟩:=r.out _ y (i.out.trans (a.mono i.out.size)) k;simp[Leaves,settle,results,results10,go_sem,t];exact⟨rfl,⟨j,z,n⟩,o⟩
theorem A7Y(B b:Nat)(m:SS)(ml:List Mr)(A:V_)(s:B_)(nl:NL s)(rb:B_)(R:O4 32 s.data.toList=some ((⟨#[112,117,116]⟩:B_).data.toList,rb.data.toList))(i tx:B_)(c:O4 32 rb.data.toList=some (i.data.toList,tx.data.toList))(n:Nat)(hn:F9 i.data.toList=some n)(hp:m.place (n:Int)=none)(w:W_)(h:M1 B b m ml A w)(hl:LibE B w)(N:m.small 3000):
 Calls prog 10 #[.agg #[.pointer (some ⟨b,0,none⟩)],.string s] w (j4 (A0J 4) B b (m) w):=by
 have ao:=mkf;have aa:=hid (D7.start h hl);have aq:=h.hBw;unfold j4;obtain⟨P,e1,e2,e3,e4⟩:=nl.at;clear nl;have hz:=A0K R;have HC:=hid λW=>l7 s _ rb P R W
 clear R;have am:=A0K c
 have al:i.size<rb.size:=by
  have:=A1n c;have X:rb.data.toList.length=rb.size:=by simp
  have h2:i.data.toList.length=i.size:=by simp
  omega
 have ab:=hid λW=>l7 rb i tx (by omega) c W
 clear c;have o:Hid (∀y G,Hid (D7 B b m w y)->Below y.heap.size y G->Hid (D7 B b m w G)):=hid λy G a b=>hid (a.out.below b)
 have HN:Hid (∀W,Hid (D7 B b m w W)->Calls prog 25 #[.string i] W (λe w'=>e=.returned (.int .i64 n)/\Below W.heap.size W w')):=hid λW r=>A18 i (by omega) n hn W r.out.lib.tab
 have HS:Hid (∀w',Hid (D7 B b m w w')->(w'.cell? ⟨w.heap.size,0,none⟩=some (.pointer (some ⟨b,0,none⟩))/\Hid (D7 B b m w w'))):=hid λw' hw=>⟨hw.out.cellS,hw⟩
 have Z:Hid (∀W,Hid (D7 B b m w W)->Calls prog 29 #[.pointer (some ⟨b,0,none⟩),.int .i64 n] W (λe w'=>e=.returned (.tuple #[.slice none 0 0,.iface 81 (.int .i64 4)])/\Below W.heap.size W w')):=hid λW r=>by
  obtain⟨M,A',P⟩:=r.out.set;refine(A2P B b m M A' (n:Int) W P).mono ?_;rintro e w'⟨hb,⟨_,rfl⟩|⟨k,q,_,_,X,_⟩⟩
  .exact⟨rfl,hb⟩
  .rw[hp] at X;cases X
 have F:Hid (∀W,D7 B b m w W->Calls prog 23 #[.string ⟨#[]⟩,.int .i64 0,.iface 81 (.int .i64 4)] W (A4L (A0J 4) W)):=hid λW r=>A3z ⟨#[]⟩ 0 4 (by omega) (by omega) W r.lib.err r.lib.tab
 unfold A4L at F;clear h hl N hn hp
 go_enter_defers func10,ntmps10
 go_wp2_with fail;refine(HC.out _).mono ?_;rintro e y⟨rfl,E⟩;have g:=hid (aa.out.below E);have Y:=g.out.cell;have H:=g.out.frozen;have J:=g.out.cellS;clear E;go_wp2_with fail;refine(ab.out _).mono ?_;rintro e G⟨rfl,D⟩;have d:=hid (g.out.below D);clear Y H J;have Y:=d.out.cell;have H:=d.out.frozen;have J:=d.out.cellS;clear D;go_wp2_with fail;have ay:=o.out _ _ d br_.drew;clear Y H J
 go_region_held3 (λw'=>w'.cell? ⟨w.heap.size,0,none⟩=some (.pointer (some ⟨b,0,none⟩))/\Hid (D7 B b m w w'))
  (exact HS.out _ (by assumption))
  (first
    | (go_at_call 25;refine(HN.out _ (by assumption)).mono ?_;rintro e w5⟨rfl,V⟩;have ap:=o.out _ _ (by assumption) V)
    | (go_at_call 29;refine(Z.out _ (by assumption)).mono ?_;rintro e w6⟨rfl,T⟩;have z:=o.out _ _ (by assumption) T))
 all_goals
  go_wp2_with fail;refine(F.out _ z.out).mono ?_;rintro e w7⟨t,rfl,ht,C⟩;have HT:=hid ht;have j:=hid (z.out.below C);have c7:=j.out.cell;have z7:=j.out.frozen;clear ht C;go_wp2_with fail;refine leaves_cons (f:=15) (args:=#[.pointer (some ⟨w.heap.size+1,0,none⟩)]) (by simp) (by simp[go_sem]) ?_;refine(A5 _ _).mono ?_;rintro e u' w9⟨rfl,rfl,S⟩;obtain⟨c9,L,A9,O,Q⟩:=j.out.fin t w9 S;simp[Leaves,settle,results,results10,go_sem,c9];exact⟨HT.out,⟨L,A9,O⟩,Q⟩
theorem B4t(B b:Nat)(m:SS)(ml:List Mr)(A:V_)(s:B_)(nl:NL s)(rb:B_)(hc:O4 32 s.data.toList=some ((⟨#[112,117,116]⟩:B_).data.toList,rb.data.toList))(D c:B_)(r:O4 32 rb.data.toList=some (D.data.toList,c.data.toList))(n:Nat)(hn:F9 D.data.toList=some n)(k:Nat)(x:Mb)(hp:m.place (n:Int)=some k)(hx:m.ms[k]?=some x)(w:W_)(h:M1 B b m ml A w)(hl:LibE B w)(ah:m.small 3000):
 Calls prog 10 #[.agg #[.pointer (some ⟨b,0,none⟩)],.string s] w (j4 (A2o x c.data.toList) B b (m) w):=by
 have aN:=mkf;have aA:=hid (D7.start h hl);have aP:=h.hBw;unfold j4;obtain⟨hs,e1,e2,e3,e4⟩:=nl.at;clear nl;have hz:=A0K hc;have HC:=hid λW=>l7 s _ rb hs hc W
 clear hc;have aM:=A0K r
 have aL:D.size<rb.size:=by
  have:=A1n r;have O:rb.data.toList.length=rb.size:=by simp
  have h2:D.data.toList.length=D.size:=by simp
  omega
 have aB:=hid λW=>l7 rb D c (by omega) r W
 clear r;have L:Hid (∀P w2,Hid (D7 B b m w P)->Below P.heap.size P w2->Hid (D7 B b m w w2)):=hid λP w2 a b=>hid (a.out.below b)
 have HN:Hid (∀W,Hid (D7 B b m w W)->Calls prog 25 #[.string D] W (λe w'=>e=.returned (.int .i64 n)/\Below W.heap.size W w')):=hid λW M=>A18 D (by omega) n hn W M.out.lib.tab
 have HS:Hid (∀w',Hid (D7 B b m w w')->(w'.cell? ⟨w.heap.size,0,none⟩=some (.pointer (some ⟨b,0,none⟩))/\Hid (D7 B b m w w'))):=hid λw' hw=>⟨hw.out.cellS,hw⟩
 obtain⟨_,_,g,i,_⟩:=T5 (h.ok.read x (List.mem_of_getElem? hx))
 have az:Hid (∀W,Hid (D7 B b m w W)->Calls prog 29 #[.pointer (some ⟨b,0,none⟩),.int .i64 n] W (λe w'=>∃(Z:Option Addr)(cap N:Nat),e=.returned (.tuple #[.slice Z N cap,.nilIface])/\q7 w' (.slice Z N cap) (A0 x.t)/\Below W.heap.size W w')):=hid λW M=>by
  obtain⟨af,A',hs⟩:=M.out.set;refine(A2P B b m af A' (n:Int) W hs).mono ?_;rintro e w'⟨H,⟨O,rfl⟩|⟨k',q,Z,cap,O,h2,he,j⟩⟩
  .rw[hp] at O;cases O
  .rw[hp] at O
   cases O;rw[hx] at h2;cases h2;exact⟨Z,cap,_,he,j,H⟩
 obtain⟨X,E,hX,Q,d⟩:∃(X:B_)(E:Nat),(∀W v,q7 W v (A0 x.t)->Calls prog 30 #[v,.string c,.string ⟨#[95]⟩] W (λe w'=>e=.returned (.tuple #[.string X,m7 (E:Int)])/\Below W.heap.size W w'))/\E<=6/\D6 X.data.toList 0 E=A2o x c.data.toList:=by
  have aE:c.data.toList.length=c.size:=by simp
  by_cases h4:400<c.size
  .refine⟨⟨#[]⟩,3,λW v j=>?_,by omega,?_⟩
   .refine(B2h (A0 x.t) c ⟨#[95]⟩ (by omega) h4 (A0k _ g) v W j).mono ?_
    rintro e w'⟨rfl,H⟩;exact⟨rfl,H⟩
   .unfold A2o
    rw[if_pos (by omega)]
    rfl
  .have d:A2o x c.data.toList=D6 (q9 c ⟨#[95]⟩ (Y0 c.data.toList x.t 0)).1 0 (q9 c ⟨#[95]⟩ (Y0 c.data.toList x.t 0)).2.toNat:=by
    unfold A2o;rw[if_neg (by omega)]
   have y:¬ 400<(⟨#[95]⟩:B_).size:=by decide
   by_cases h5:400<(A4Q c ⟨#[95]⟩ (Y0 c.data.toList x.t 0)).length
   .have G:q9 c ⟨#[95]⟩ (Y0 c.data.toList x.t 0)=([],3):=by unfold q9;rw[if_neg y,if_pos h5]
    refine⟨⟨#[]⟩,3,λW v j=>?_,by omega,by rw[d,G];rfl⟩;refine(A8U (A0 x.t) x.t rfl g i c ⟨#[95]⟩ (by omega) (by decide) v W j).mono ?_;rintro e w' (⟨o,_⟩|⟨_,rfl,H⟩)
    .exfalso
     unfold A2z at o;rw[if_neg y,if_pos (show 400<(A3K c ⟨#[95]⟩ (Y0 c.data.toList x.t 0)).length from h5)] at o
     split at o <;> omega
    .exact⟨rfl,H⟩
   .have G:q9 c ⟨#[95]⟩ (Y0 c.data.toList x.t 0)=(A4Q c ⟨#[95]⟩ (Y0 c.data.toList x.t 0),0):=by unfold q9;rw[if_neg y,if_neg h5]
    refine⟨⟨(A4Q c ⟨#[95]⟩ (Y0 c.data.toList x.t 0)).toArray⟩,0,λW v j=>?_,by omega,by rw[d,G];rfl⟩;refine(A8U (A0 x.t) x.t rfl g i c ⟨#[95]⟩ (by omega) (by decide) v W j).mono ?_;rintro e w' (⟨_,rfl,H⟩|⟨o,_⟩)
    .exact⟨rfl,H⟩
    .exfalso
     unfold A2z at o;rw[if_neg y,if_neg (show ¬ 400<(A3K c ⟨#[95]⟩ (Y0 c.data.toList x.t 0)).length from h5)] at o;unfold A1o at o;rw[A0k _ g,if_neg (show ¬((0:Int)≠0) by simp),if_neg h4] at o;simp at o
 have ay:=hid hX
 have ax:Hid (∀W,D7 B b m w W->Calls prog 23 #[.string X,.int .i64 0,m7 (E:Int)] W (λe w'=>∃t:B_,e=.returned (.string t)/\t.data.toList=A2o x c.data.toList/\Below W.heap.size W w')):=hid λW M=>by
  have:=A3z X 0 E Q (by omega) W M.lib.err M.lib.tab;rw[d] at this;exact this
 clear h hl ah hn hp hx g i hX Q d;generalize A2o x c.data.toList=R at *;generalize m7 (E:Int)=EV at *;generalize A0 x.t=F at *
 go_enter_defers func10,ntmps10
 go_wp2_with fail;refine(HC.out _).mono ?_;rintro e P⟨rfl,Y⟩;have C:=hid (aA.out.below Y);have c1:=C.out.cell;have z1:=C.out.frozen;have s1:=C.out.cellS;clear Y;go_wp2_with fail;refine(aB.out _).mono ?_;rintro e w2⟨rfl,V⟩;have z:=hid (C.out.below V);clear c1 z1 s1;have c1:=z.out.cell;have z1:=z.out.frozen;have s1:=z.out.cellS;clear V;go_wp2_with fail;have aV:=L.out _ _ z br_.drew;clear c1 z1 s1
 go_region_held3 (λw'=>w'.cell? ⟨w.heap.size,0,none⟩=some (.pointer (some ⟨b,0,none⟩))/\Hid (D7 B b m w w'))
  (exact HS.out _ (by assumption))
  (first
    | (go_at_call 25;refine(HN.out _ (by assumption)).mono ?_;rintro e w5⟨rfl,au⟩;have aO:=L.out _ _ (by assumption) au)
    | (go_at_call 29;refine(az.out _ (by assumption)).mono ?_;rintro e w6⟨Z,cap,N,rfl,j,ar⟩;have ak:=hid j;have am:=L.out _ _ (by assumption) ar))
 all_goals
  go_wp2_with fail;refine(ay.out _ _ ak.out).mono ?_;rintro e w8⟨rfl,S⟩;have aa:=hid (am.out.below S);clear S;go_wp2_with fail;refine(ax.out _ aa.out).mono ?_;rintro e w7⟨t,rfl,ht,T⟩;have HT:=hid ht;have J:=hid (aa.out.below T);have c7:=J.out.cell;have z7:=J.out.frozen;clear ht T;go_wp2_with fail;refine leaves_cons (f:=15) (args:=#[.pointer (some ⟨w.heap.size+1,0,none⟩)]) (by simp) (by simp[go_sem]) ?_;refine(A5 _ _).mono ?_;rintro e u' w9⟨rfl,rfl,aq⟩;obtain⟨c9,ae,A9,ai,ao⟩:=J.out.fin t w9 aq;simp[Leaves,settle,results,results10,go_sem,c9];exact⟨HT.out,⟨ae,A9,ai⟩,ao⟩
end Go.Proofs.YthhcpbfgoofppaaGreatDoor.setW
namespace Go.Proofs.YthhcpbfgoofppaaGreatDoor
open Go.RowKit Wf
structure Bd (B b:Nat) (p:V_) (l:List U_) (v:V_) (w:W_):Prop where
 hB:B<=b
 blk:J0 w b 32 #[p,v]
 own:w.ownsRow B 5 1 v l.length (Lib.byteCells l)
 ne:v.ownBlock≠some b
 nil:l=[]->v=.slice none 0 0
section
variable {B b:Nat} {p v:V_} {l:List U_} {w:W_}
theorem Bd.form(h:Bd B b p l v w):∃A cap,v=.slice A l.length cap:=by
 rcases h.own.2 with ⟨hv,h0⟩|⟨g,cap,cur,hv,_⟩
 .exact⟨none,0,by rw[hv,h0]⟩
 .exact⟨_,_,hv⟩
theorem Bd.lt(h:Bd B b p l v w):b<w.heap.size:=h.blk.lt
theorem Bd.set0(h:Bd B b p l v w)(q:V_):Bd B b q l v (w.setCell ⟨b,0,none⟩ q) :=
 ⟨h.hB,by have:=h.blk.set_ 0 q;simpa using this,h.own.kept (s8 w b 0 q) (by have:=h.ne;exact .inr this),h.ne,h.nil⟩
theorem Bd.below{w':W_}(h:Bd B b p l v w)(a:Below w.heap.size w w'):Bd B b p l v w' :=
 ⟨h.hB,h.blk.kept a,World.ownsRow.kept (row:=none) h.own ⟨a.os,a.tape,a.output,a.size,λi c _=>a.block i c⟩ (by cases hv:v.ownBlock <;> simp),h.ne,h.nil⟩
theorem Bd.is(h:Bd B b p l v w)(a:IsP b p):Lib.IsBuilder 32 5 B b (Lib.byteCells l) w:=by
 have c:(Lib.byteCells l).length=l.length:=by simp[Lib.byteCells]
 have key:Lib.BuilderAt 32 5 B b p (Lib.byteCells l) w:=⟨h.hB,v,h.blk,by rw[c];exact h.own,h.ne⟩
 rcases a with rfl|rfl
 .exact .inl key
 .exact .inr key
end
theorem B7s:liesAt prog prog.depth 32 (2 / prog.cellsOf 32) 0 32 1=true:=by kernel_rfl
def C0Q(B b:Nat)(l:List U_)(v:V_)(w:W_)(e:Ending)(w':W_):Prop :=
 e=.returned (.tuple #[])/\Bd B b (.pointer (some ⟨b,0,none⟩)) l v w'/\WK B b w w'
def B9f(a:V_)(B b:Nat)(l:List U_)(w:W_)(e:Ending)(w':W_):Prop :=
 e=.returned a/\∃c,Bd B b (.pointer (some ⟨b,0,none⟩)) l c w'/\WK B b w w'
theorem B3e(B b:Nat)(p v:V_)(l:List U_)(w:W_)(h:Bd B b p l v w)(f:IsP b p):
 Calls prog 14 #[.pointer (some ⟨b,0,none⟩)] w (C0Q B b l v w):=by
 obtain⟨j,d,c⟩:=B1P;rcases f with rfl|rfl
 .have i:w.cell? ⟨b,0,none⟩=some (.pointer none):=h.blk.cell 0
  have a:w.shape? b=some (32,2):=by have:=h.blk;unfold J0 at this;simp[World.shape?,this]
  have g:=h.blk.frozen 0;have H:=hid h;clear h;go_enter func14,ntmps14;go_wp2;rw[Lib.run_to_unsafe w ⟨b,0,none⟩ underlying29 underlying92 d (by rw[c];decide) a (Nat.zero_lt_succ 1)];simp only[Result.andThen];rw[Oper.upon_value];go_wp2;rw[run_callFunc_extern func43 (by kernel_rfl) (by kernel_rfl) (by kernel_rfl) (e:=Extern.AbiNoEscape.same) (by kernel_rfl)];rw[Lib.run_noEscape];simp only[Result.andThen];rw[Oper.upon_value];go_wp2;rw[Lib.run_from_unsafe w ⟨b,0,none⟩ underlying92 underlying29 d a B7s];simp only[Result.andThen];rw[Oper.upon_value];go_wp2
  go_end0
  exact⟨rfl,H.out.set0 _,WK.set H.out.hB w 0 _⟩
 .have i:w.cell? ⟨b,0,none⟩=some (.pointer (some ⟨b,0,none⟩)):=h.blk.cell 0
  have H:=hid h;clear h;go_enter func14,ntmps14;go_wp2;rw[Lib.run_neq_ptr_same w _ underlying29 d];go_wp2
  go_end0
  exact⟨rfl,H.out,WK.refl _ _ _⟩
theorem B7p(B b:Nat)(s:B_)(P:0<s.size)(p v:V_)(l:List U_)(w:W_)(h:Bd B b p l v w)(L:IsP b p)(M:l.length+s.size<=1000000000):
 Calls prog 9 #[.pointer (some ⟨b,0,none⟩),.string s] w (B9f (.tuple #[.int .i64 s.size,.nilIface]) B b (l++s.data.toList) w):=by
 obtain⟨R,S,A,z,y⟩:=info_parts A2i;have D:B<=w.heap.size:=by have:=h.hB;have:=h.lt;omega
 have n:=hid (B3e B b p v l w h L);have q:Lib.byteCells (l++s.data.toList)=Lib.byteCells l++Lib.strCells s:=by simp[Lib.byteCells,Lib.strCells]
 have H:=hid q;unfold C0Q at n;clear h L q;go_enter func9,ntmps9;go_wp2_with fail;refine n.out.mono ?_;rintro e J⟨rfl,r,k⟩;obtain⟨t,d,rfl⟩:=r.form;have o:=hid r;have G:=hid k;have Z:J.cell? ⟨b,1,none⟩=some (.slice t l.length d):=r.blk.cell 1;have C:B<=J.heap.size:=Nat.le_trans D k.bel.size;clear r k n
 go_wp2_with (at_builtin;refine Lib.wpList_append_own_string _ rfl _ _ 30 9 rfl B 5 R underlying30 underlying9 S A z y _ _ _ rfl o.out.own s rfl ?c3 ?c4 ?c5 ?_)
 case c3=>unfold maxLen;omega
 case c4=>omega
 case c5=>omega
 intro Q i a c _
 have f:J0 i b 32 #[.pointer (some ⟨b,0,none⟩),.slice t l.length d]:=by
  have:=o.out.blk;have hlt:=o.out.lt;refine(c.block b (by omega) (λe=>o.out.ne e.symm)).trans ?_;exact this
 have Y:i.cell? ⟨b,0,none⟩=some (.pointer (some ⟨b,0,none⟩)):=f.cell 0;have X:i.cell? ⟨b,1,none⟩=some (.slice t l.length d):=f.cell 1;have V:i.frozen? ⟨b,1,none⟩=false:=f.frozen 1
 obtain⟨g,cap,rfl⟩:∃g cap,Q=.slice (some ⟨g,0,none⟩) (l.length+s.size) cap:=by
  rcases a.2 with ⟨_,P⟩|⟨g,cap,cur,hv,_⟩
  .omega
  .exact⟨g,cap,hv⟩
 have j:(Value.slice (some ⟨g,0,none⟩) (l.length+s.size) cap).ownBlock≠some b:=λe=>by
  rcases a.2 with ⟨_,P⟩|⟨g',cap',cur,hv,_,hgg,_⟩
  .omega
  .injection hv with hv1
   injection hv1 with hv1
   injection hv1 with hv1
   have e':g=b:=Option.some.inj e;rw[←hv1,e'] at hgg;have hb2':i.heap[b]?=some (.cells #[.pointer (some ⟨b,0,none⟩),.slice t l.length d] 32 (0,0)):=f;rw[hb2'] at hgg;injection hgg with hgg
   injection hgg with _ hgg _
   exact absurd hgg (by decide)
 have O:=(G.out.trans (WK.grown (b:=b) C o.out.own c)).trans (WK.set o.out.hB i 1 (.slice (some ⟨g,0,none⟩) (l.length+s.size) cap))
 have N:Bd B b (.pointer (some ⟨b,0,none⟩)) (l++s.data.toList) (.slice (some ⟨g,0,none⟩) (l.length+s.size) cap) (i.setCell ⟨b,1,none⟩ (.slice (some ⟨g,0,none⟩) (l.length+s.size) cap)) :=
  ⟨o.out.hB,by have:=f.set_ 1 (.slice (some ⟨g,0,none⟩) (l.length+s.size) cap);simpa using this,by
    have:=a.kept (s8 i b 1 (.slice (some ⟨g,0,none⟩) (l.length+s.size) cap)) (.inr j);rw[H.out,List.length_append,show s.data.toList.length=s.size by simp];exact this,j,λh=>by have T:=congrArg List.length h;rw[List.length_append,show s.data.toList.length=s.size by simp,List.length_nil] at T;omega⟩
 have F:=hid O;have E:=hid N;clear O N c a j f;go_wp2;go_ret2;exact⟨rfl,_,E.out,F.out⟩
end Go.Proofs.YthhcpbfgoofppaaGreatDoor
namespace Go.Proofs.YthhcpbfgoofppaaGreatDoor.setW
open Go.RowKit Wf
theorem B1x{s:B_}{l:List U_}(h:s.data.toList=l):s=⟨l.toArray⟩:=ByteArray.ext (Array.toList_inj.1 h)
theorem B8w(B b:Nat)(m:SS)(c:List Mr)(A:V_)(s:B_)(f:s.size<=3000)(w:W_)(h:M1 B b m c A w)(d:LibE B w)(a:m.small 3000):
 Calls prog 10 #[.agg #[.pointer (some ⟨b,0,none⟩)],.string s] w (j4 (O2 m s.data.toList).1 B b (O2 m s.data.toList).2 w):=by
 by_cases q2:s.data.toList=[111,110]
 .rw[q2,B1x q2,show O2 m [111,110]=(A1d,{ m with on:=true }) from by unfold O2;rw[if_pos rfl]]
  exact B7L B b m c A w h d a
 by_cases q3:s.data.toList=[111,102,102]
 .rw[q3,B1x q3,show O2 m [111,102,102]=(A1d,{ m with on:=false }) from by unfold O2;rw[if_neg (by decide),if_pos rfl]]
  exact B4u B b m c A w h d a
 by_cases q4:s.data.toList=[116,114,105,101,100]
 .rw[q4,B1x q4,show O2 m [116,114,105,101,100]=(Lib.decDigits m.tried,m) from by unfold O2;rw[if_neg (by decide),if_neg (by decide),if_pos rfl]]
  exact B0X B b m c A w h d a
 by_cases q1:s.data.toList=[108,105,115,116]
 .rw[q1,B1x q1,show O2 m [108,105,115,116]=(T2 (D3 (m.ms.map S7)),m) from by unfold O2;rw[if_neg (by decide),if_neg (by decide),if_neg (by decide),if_pos rfl]]
  exact B20 B b m c A w h d a
 unfold O2;rw[if_neg q2,if_neg q3,if_neg q4,if_neg q1];cases hc:O4 32 s.data.toList with
 | none=>exact B0a B b m c A s ⟨f,q1,q2,q3,q4⟩ hc w h d a
 | some p =>
   obtain⟨j,r⟩:=p;dsimp only;have N:=A1n hc;have G:s.data.toList.length=s.size:=by simp
   have H:(⟨r.toArray⟩:B_).size=r.length:=by simp[ByteArray.size]
   by_cases r1:j=[97,100,100]
   .subst r1
    rw[if_pos rfl];exact B4v B b m c A s ⟨f,q1,q2,q3,q4⟩ ⟨r.toArray⟩ hc w h d a
   rw[if_neg r1];by_cases r2:j=[114,101,109,111,118,101]
   .subst r2
    rw[if_pos rfl];cases hn:F9 r with
    | none=>exact A6B B b m c A s ⟨f,q1,q2,q3,q4⟩ ⟨r.toArray⟩ hc hn w h d a
    | some n=>exact A8m B b m c A s ⟨f,q1,q2,q3,q4⟩ ⟨r.toArray⟩ hc n hn w h d a
   rw[if_neg r2];by_cases r3:j=[115,99,97,110]
   .subst r3
    rw[if_pos rfl];by_cases h4:400<r.length
    .rw[if_pos h4]
     exact A6j B b m c A s ⟨f,q1,q2,q3,q4⟩ ⟨r.toArray⟩ hc [] (by simp) (λq J=>by cases J) (m7 3) 3 (by omega) rfl m w h d a λW o=>by
      obtain⟨g,E,i⟩:=o.set;refine(B3n B b m g E ⟨r.toArray⟩ W i (by omega)).mono ?_;rintro e w'⟨rfl,rfl⟩;exact⟨_,rfl,Rd.nil _ 3,o⟩
    .rw[if_neg h4]
     have:=A6j B b m c A s ⟨f,q1,q2,q3,q4⟩ ⟨r.toArray⟩ hc (m.hits r) (Wf.hits_len h.ok (by omega)) (A29 a (by omega) (by omega)) .nilIface 0 (by omega) j5.symm (m.scan r) w h d a λW o=>by
      obtain⟨g,E,i⟩:=o.set;refine(B71 B b m g E ⟨r.toArray⟩ W i (by omega)).mono ?_;rintro e w'⟨v,C,M,rfl,L,D,y⟩;exact⟨v,rfl,Rd.of_own L,o.next ⟨C,M,D⟩ y⟩
     exact this
   rw[if_neg r3];by_cases r4:j=[112,117,116]
   .subst r4
    rw[if_pos rfl];cases hc2:O4 32 r with
    | none=>exact B0Y B b m c A s ⟨f,q1,q2,q3,q4⟩ ⟨r.toArray⟩ hc hc2 w h d a
    | some p =>
      obtain⟨t,z⟩:=p;dsimp only;cases hn:F9 t with
      | none=>exact A8n B b m c A s ⟨f,q1,q2,q3,q4⟩ ⟨r.toArray⟩ hc ⟨t.toArray⟩ ⟨z.toArray⟩ hc2 hn w h d a
      | some n =>
        dsimp only;cases hp:m.place (n:Int) with
        | none=>exact A7Y B b m c A s ⟨f,q1,q2,q3,q4⟩ ⟨r.toArray⟩ hc ⟨t.toArray⟩ ⟨z.toArray⟩ hc2 n hn hp w h d a
        | some k =>
          have y:=A0e hp;have F:m.ms[k]?=some (m.ms[k]'y):=List.getElem?_eq_getElem y;rw[Option.bind_some,F];exact B4t B b m c A s ⟨f,q1,q2,q3,q4⟩ ⟨r.toArray⟩ hc ⟨t.toArray⟩ ⟨z.toArray⟩ hc2 n hn k _ hp F w h d a
   rw[if_neg r4];exact B0Z B b m c A s ⟨f,q1,q2,q3,q4⟩ ⟨j.toArray⟩ ⟨r.toArray⟩ hc r1 r2 r3 r4 w h d a
theorem B4e{B b base n a:Nat}{e:TypeId}{w w':W_}{v:V_}{c:List V_}(h:w.ownsRow base e a v n c)(d:WK B b w w')(f:e≠5)(i:v.ownBlock≠some b):w'.ownsRow base e a v n c:=by
 refine⟨h.1,?_⟩;rcases h.2 with hn|⟨g,cap,cur,rfl,hbg,hgg,rest⟩
 .exact .inl hn
 .refine .inr ⟨g,cap,cur,rfl,hbg,?_,rest⟩
  exact d.keep g cur e (λe=>i (by rw[e];rfl)) f hgg
theorem M1.wk{B b C c:Nat}{m:SS}{f:List Mr}{A:V_}{W W':W_}{t:TypeId}{cs:Array V_}(h:M1 B b m f A W)(d:WK C c W W')(g:J0 W c t cs)(k:b≠c)(j:t≠97)(i:t≠114):M1 B b m f A W' :=
 ⟨h.hB,h.ms,d.keep _ _ _ k (by decide) h.blk,B4e h.own d (by decide) (C2 h.own g j),λq a=>⟨B4e (h.mem q a).1 d (by decide) (C2 (h.mem q a).1 g i),(h.mem q a).2⟩,h.ok,h.lastb⟩
theorem Bd.sk{B b C c:Nat}{p v:V_}{l:List U_}{W W':W_}(h:Bd C c p l v W)(a:SK B b W W')(d:b<C):Bd C c p l v W' :=
 ⟨h.hB,a.keep _ _ _ (by have:=h.hB;omega) (by decide) h.blk,A35 h.own a (by decide) (λe=>by have:=(h.own.lt b e).1;omega),h.ne,h.nil⟩
theorem Bd.new(w:W_)(c:Nat)(a:c=w.heap.size):Bd c c (.pointer none) [] (.slice none 0 0) (w.alloc (.cells #[.pointer none,.slice none 0 0] 32)):=by
 subst a;exact⟨lr_ _,J0.new _ _ _,⟨by simp[Lib.byteCells],.inl ⟨rfl,rfl⟩⟩,by simp[Value.ownBlock],λ_=>rfl⟩
structure RnE (B sb:Nat) (m:SS) (out:List U_) (W:W_):Prop where
 set:∃ml A,M1 B B m ml A W
 bd:∃p v,Bd (sb+1) (sb+1) p out v W/\IsP (sb+1) p
 ses:J0 W sb 28 #[.pointer (some ⟨B,0,none⟩)]
 lib:LibE B W
 lt:B<sb
section
variable {B sb:Nat} {m m':SS} {out:List U_} {W W':W_}
theorem RnE.below(h:RnE B sb m out W)(a:Below W.heap.size W W'):RnE B sb m out W':=by
 obtain⟨d,A,c⟩:=h.set;obtain⟨p,v,g,f⟩:=h.bd;exact⟨⟨d,A,c.below a⟩,⟨p,v,g.below a,f⟩,h.ses.kept a,h.lib.next (a.mono c.hBw),h.lt⟩
theorem RnE.line(h:RnE B sb m out W)(d:∃c A,M1 B B m' c A W')(a:SK B B W W'):RnE B sb m' out W':=by
 obtain⟨p,v,g,f⟩:=h.bd;have:=h.lt;exact⟨d,⟨p,v,Bd.sk g a (by omega),f⟩,a.keep _ _ _ (by omega) (by decide) h.ses,h.lib.next a.bel,h.lt⟩
theorem RnE.wrote{a:List U_}{v:V_}(h:RnE B sb m out W)(i:Bd (sb+1) (sb+1) (.pointer (some ⟨sb+1,0,none⟩)) a v W')(c:WK (sb+1) (sb+1) W W'):RnE B sb m a W':=by
 obtain⟨f,A,g⟩:=h.set;obtain⟨p,j,d,k⟩:=h.bd;have:=h.lt;exact⟨⟨f,A,M1.wk g c d.blk (by omega) (by decide) (by decide)⟩,⟨_,_,i,.inr rfl⟩,c.keep _ _ _ (by omega) (by decide) h.ses,h.lib.next (c.bel.mono (by omega)),h.lt⟩
theorem RnE.cell(h:RnE B sb m out W):W.cell? ⟨sb,0,none⟩=some (.pointer (some ⟨B,0,none⟩)):=by have:=h.ses.cell 0;simpa using this
end
theorem RnE.write{B sb:Nat}{m:SS}{out:List U_}{W:W_}(h:RnE B sb m out W)(t:B_)(q:out.length+t.size<=900000000):
 Calls prog 9 #[.pointer (some ⟨sb+1,0,none⟩),.string (t++⟨#[10]⟩)] W (λe w'=>e=.returned (.tuple #[.int .i64 ((t++(⟨#[10]⟩:B_)).size:Int),.nilIface])/\RnE B sb m (out++(t.data.toList++[10])) w'/\Below B W w'):=by
 obtain⟨p,v,k,g⟩:=h.bd;have d:(⟨#[10]⟩:B_).size=1:=rfl;have o:(t++(⟨#[10]⟩:B_)).size=t.size+1:=by rw[ByteArray.size_append,d]
 have a:(t++(⟨#[10]⟩:B_)).data.toList=t.data.toList++[10]:=by rw[L0]
 have:=B7p (sb+1) (sb+1) (t++⟨#[10]⟩) (by omega) p v out W k g (by omega);rw[a] at this;refine this.mono λe w' i=>?_
 obtain⟨j,n,c,f⟩:=i;exact⟨j,h.wrote c f,f.bel.mono (by have:=h.lt;omega)⟩
theorem A48{m:SS}{n k:Nat}(h:m.small n)(a:n<=k):m.small k:=⟨h.ok,by have:=h.last;omega,h.tried⟩
def B8L:V_->Nat
 | .string s=>s.size
 | _=>0
theorem B5f(s:B_)(d:s.size<=3000)(j:0<s.size):∃(a b:B_)(f:Bool),J2 s.data.toList=a.data.toList::J2 b.data.toList/\a.size+b.size<=s.size/\b.size<s.size /\
 ∀W,Calls prog 8 #[.string s,.string ⟨#[10]⟩] W (λe w'=>e=.returned (.tuple #[.string a,.string b,.bool f])/\Below W.heap.size W w'):=by
 have c:s.data.toList.length=s.size:=by simp
 cases hc:O4 10 s.data.toList with
 | none=>exact⟨s,⟨#[]⟩,false,by rw[A6A hc (by intro e;rw[e] at c;simp at c;omega)];rfl,by show s.size+0<=_;omega,by show 0<_;omega,A51 s d hc⟩
 | some p =>
   obtain⟨a,b⟩:=p;have g:=A1n hc;have i:(⟨a.toArray⟩:B_).size=a.length:=by simp[ByteArray.size]
   have h:(⟨b.toArray⟩:B_).size=b.length:=by simp[ByteArray.size]
   exact⟨⟨a.toArray⟩,⟨b.toArray⟩,true,A7X hc,by omega,by omega,l7 s _ _ d hc⟩
theorem B8R(s:B_)(ao:s.size<=9223372036854775807)(w:W_)(Y:LibE w.heap.size w):
 Calls prog 5 #[.string s] w (λe w'=>∃t:B_,e=.returned (.string t)/\t.data.toList=A4e s.data.toList/\Below w.heap.size w w'):=by
 have C:s.data.toList.length=s.size:=by simp
 by_cases h3:3000<s.size
 .have HR:Hid (A4e s.data.toList=B8W):=hid (by unfold A4e;rw[if_pos (by omega)])
  have d:=dt_ ((3000:Int)<s.size);clear Y C h3;go_enter func5,ntmps5;go_wp2_with fail;go_ret;exact⟨_,rfl,by rw[HR.out];rfl,br_⟩
 .have HR:Hid (A4e s.data.toList=k7 SS.zero (J2 s.data.toList)):=hid (by unfold A4e;rw[if_neg (by omega)])
  have d:=df_ ((3000:Int)<s.size);have aA:s.size<=3000:=by omega
  have HN:=hid (B8B w);unfold B6P at HN;have HL:=hid Y;clear Y C h3;go_enter func5,ntmps5;go_wp2_with fail;refine HN.out.mono ?_;rintro e O⟨rfl,i,g⟩
  have z:RnE w.heap.size O.heap.size SS.zero [] ((O.alloc (.cells #[.pointer (some ⟨w.heap.size,0,none⟩)] 28)).alloc (.cells #[.pointer none,.slice none 0 0] 32)) :=
   ⟨⟨_,_,(i.below ba_).below ba_⟩,⟨_,_,Bd.new _ _ (by simp),.inl rfl⟩,(J0.new O _ _).alloc _,HL.out.next (g.trans ((br_.alloc g.size _).alloc (by have:=g.size;simp;omega) _)),i.lt⟩
  have N:=hid (g.trans ((br_.alloc g.size (.cells #[.pointer (some ⟨w.heap.size,0,none⟩)] 28)).alloc (by have:=g.size;simp;omega) (.cells #[.pointer none,.slice none 0 0] 32)));have H0:=hid z;have hlt:=z.lt;clear i g z;go_wp2_with fail;generalize O.heap.size=sb at *
  go_loopw [0] (λv0 wr=>∃(c:B_)(m:SS) (out:List U_),v0=.string c/\c.size<=s.size/\out.length<=80001*(s.size - c.size)/\Hid (k7 SS.zero (J2 s.data.toList)=out++k7 m (J2 c.data.toList))/\Hid (m.small (s.size - c.size))/\Hid (RnE w.heap.size sb m out wr)/\Hid (Below w.heap.size w wr)) (λv _=>B8L v)
  case atStart=>exact⟨s,SS.zero,[],rfl,by omega,by simp,hid rfl,hid (by rw[Nat.sub_self];exact SS.small_zero),H0,N⟩
  case round =>
   clear H0 N;obtain⟨c,m,out,rfl,aC,X,P,Q,HE,HB⟩:=hrel;by_cases z:c.size=0
   .have V:c=⟨#[]⟩:=ByteArray.ext (Array.eq_empty_of_size_eq_zero z)
    subst V;obtain⟨p,v,Z,hp⟩:=HE.out.bd;have HS:=hid (A7F (sb+1) (sb+1) out wr (Bd.is Z hp) (by have:=Z.lt;omega))
    have L:Hid ((⟨out.toArray⟩:B_).data.toList=A4e s.data.toList):=hid (by
     rw[HR.out,P.out];show out=out++k7 m (J2 []);simp[J2,k7])
    clear Z hp z P;go_wp2_with fail;refine HS.out.mono ?_;rintro e w2⟨rfl,h⟩;have y:=hid (HB.out.trans (h.mono (by omega)));clear h;go_wp2_with fail;go_ret;exact⟨_,rfl,L.out,y.out⟩
   .obtain⟨a,b,f,n,aE,aD,hcut⟩:=B5f c (by omega) (by omega)
    have e0:(c.toList==[])=false:=Z0 (λe=>by
     have h1:c.data.toList.length=c.size:=by simp
     rw[e] at h1;simp at h1;omega)
    have e1:c.toList.isEmpty=false:=by
     cases hq:c.toList with
     | nil=>simp[hq] at e0
     | cons x r=>rfl
    have e2:¬c.toList=[]:=by intro e;rw[e] at e1;cases e1
    have HC:=hid hcut;have o:a.data.toList.length=a.size:=by simp
    have af:Hid ((O2 m a.data.toList).2.small (s.size - b.size)):=hid (A48 (Q.out.line a.data.toList) (by rw[o];omega));have D:=A37 Q.out (by omega) a.data.toList
    have ad:Hid (k7 SS.zero (J2 s.data.toList)=(out++((O2 m a.data.toList).1++[10]))++k7 (O2 m a.data.toList).2 (J2 b.data.toList)):=hid (by
     rw[P.out,n];simp[k7])
    have ag:Hid (∀W,RnE w.heap.size sb m out W->Calls prog 10 #[.agg #[.pointer (some ⟨w.heap.size,0,none⟩)],.string a] W (λe w'=>∃t:B_,e=.returned (.string t)/\t.data.toList=(O2 m a.data.toList).1/\RnE w.heap.size sb (O2 m a.data.toList).2 out w'/\Below w.heap.size W w')):=hid λW J=>by
     obtain⟨ml,A,hs⟩:=J.set;refine(B8w _ _ m ml A a (by omega) W hs J.lib (A48 Q.out (by omega))).mono ?_;rintro e w'⟨t,S,A2,rfl,j,T,hk⟩;exact⟨t,rfl,j,J.line ⟨S,A2,T⟩ hk,hk.bel⟩
    have aa:Hid (∀(W:W_)(t:B_),t.data.toList=(O2 m a.data.toList).1->RnE w.heap.size sb (O2 m a.data.toList).2 out W->Calls prog 9 #[.pointer (some ⟨sb+1,0,none⟩),.string (t++⟨#[10]⟩)] W (λe w'=>e=.returned (.tuple #[.int .i64 ((t++(⟨#[10]⟩:B_)).size:Int),.nilIface])/\RnE w.heap.size sb (O2 m a.data.toList).2 (out++((O2 m a.data.toList).1++[10])) w'/\Below w.heap.size W w')):=hid λW t j J=>by
     rw[←j];have q:t.data.toList.length=t.size:=by simp
     rw[j] at q
     exact J.write t (by
      have:80001*(s.size - c.size)<=80001*3000:=Nat.mul_le_mul_left _ (by omega);omega)
    have k:(out++((O2 m a.data.toList).1++[10])).length<=80001*(s.size - b.size):=by
     simp only[List.length_append,List.length_cons,List.length_nil]
     have:80001*(s.size - c.size)+80001<=80001*(s.size - b.size):=by
      rw[show 80001*(s.size - c.size)+80001=80001*(s.size - c.size+1) by omega];exact Nat.mul_le_mul_left _ (by omega)
     omega
    have ae:=hid k
    have ab:Hid (∀t:B_,t.data.toList=(O2 m a.data.toList).1->t.size<=80000):=hid λt j=>by
     have q:t.data.toList.length=t.size:=by simp
     rw[j] at q;omega
    generalize (O2 m a.data.toList).1=R at *;generalize (O2 m a.data.toList).2=m2 at *;clear n hcut o D X k P Q;go_wp2_with fail;refine(HC.out _).mono ?_;rintro e w2⟨rfl,h⟩;have M:=hid (HE.out.below h);have y:=hid (HB.out.trans (h.mono HB.out.size));have c2:=M.out.cell;clear h;go_wp2_with fail;refine(ag.out _ M.out).mono ?_;rintro e w3⟨t,rfl,j,F,H⟩;have ai:=hid F;have ak:=hid (y.out.trans H);have HT:=hid j;have az:=ab.out t j;clear F H j c2;go_wp2_with fail;refine(aa.out _ t HT.out ai.out).mono ?_;rintro e w4⟨rfl,E,G⟩;have ah:=hid E;have aj:=hid (ak.out.trans G);clear E G;go_wp2_with fail;go_roundw
    case rel=>exact⟨b,m2,_,rfl,by omega,ae.out,ad,af,ah,aj⟩
    case measure=>simp[B8L];omega
