import Derived.Test.YthhcpbfgoofppaaGreatDoorGRw
set_option linter.unusedVariables false
set_option linter.unusedSimpArgs false
open Wf
set_option maxRecDepth 100000
set_option maxHeartbeats 8000000
open Go.Lib (hid)
open Go.Proofs.Tryz hiding parts
namespace Go.Proofs.YthhcpbfgoofppaaGreatDoor
open Go.RowKit Wf
theorem B5j(c:X4):A9G c 256=B6 c:=(A3j c).symm
theorem A5s(f d c a:Nat)(w:W_)(aw:P5 (f,d,c,a)):Calls prog 58 #[.agg #[.int .u64 f,.int .u64 d,.int .u64 c,.int .u64 a]] w (L5 (F6 (f,d,c,a)) w):=by
 have aN:=hid (λ(b:Nat)(hb:b<256) (W:W_)=>A1s f d c a b W aw hb);have av:=hid (λ(W:W_)=>A1s f d c a 10 W aw (by omega));have aB:=hid (λ(W:W_)=>A3F f d c a W aw);have ba:=hid (λ(W:W_)=>A2N f d c a W aw)
 have aP:Hid (∀(W:W_)(d0 d1 d2 d3:Nat),(d0,d1,d2,d3)=p8 (f,d,c,a)->Calls prog 91 #[.agg #[.int .u64 d0,.int .u64 d1,.int .u64 d2,.int .u64 d3]] W (λe w'=>e=.returned (.int .i64 (B6 (p8 (f,d,c,a)):Int))/\Below W.heap.size W w')):=hid (λW d0 d1 d2 d3 h=>by
  have hh:=A3F d0 d1 d2 d3 W (by rw[h];exact A0O _);unfold A3u at hh;rw[h,B5j] at hh;exact hh)
 unfold A7A at aN av;unfold A3u at aB;unfold M5 at ba;rw[B5j] at aB;have bi:Hid (J0 (w.alloc (.cells #[.int .u64 f,.int .u64 d,.int .u64 c,.int .u64 a] 112)) w.heap.size 112 #[.int .u64 f,.int .u64 d,.int .u64 c,.int .u64 a]):=hid (J0.new w _ _);have aH:Hid (Below w.heap.size w (w.alloc (.cells #[.int .u64 f,.int .u64 d,.int .u64 c,.int .u64 a] 112))):=hid ba_;have aO:=B7f aw;have ay:=B7Y aw;by_cases hc:(f,d,c,a)=A2r
 .obtain⟨h1,h2⟩:=ay.1 hc
  have aq:F6 (f,d,c,a)=[46]:=by
   unfold F6;rw[if_neg (by omega),if_pos hc]
  have aF:=hid aq;rw[h1] at aP;rw[h2] at av;clear aO ay hc aq h1 h2 aw;generalize B6 (f,d,c,a)=n at *;go_enter func58,ntmps58;go_wp2_with fail;refine(aB.out _).mono ?_;rintro e w1⟨rfl,N⟩;have ab:=hid (bi.out.kept N);have af:=hid (aH.out.trans (N.mono aH.out.size));clear N;obtain⟨⟨F,E,D,C⟩,_⟩:=V1 ab.out;go_wp2_with fail;refine(ba.out _).mono ?_;rintro e w2⟨d0,d1,d2,d3,rfl,hd,R⟩;have aa:=hid (ab.out.kept R);have ae:=hid (af.out.trans (R.mono af.out.size));have HD:=hid hd;clear R hd F E D C;obtain⟨⟨F,E,D,C⟩,_⟩:=V1 aa.out;go_wp2_with fail;refine(aP.out _ d0 d1 d2 d3 HD.out).mono ?_;rintro e w3⟨rfl,Q⟩;have Z:=hid (aa.out.kept Q);have ad:=hid (ae.out.trans (Q.mono ae.out.size));clear Q F E D C;obtain⟨⟨F,E,D,C⟩,_⟩:=V1 Z.out;go_wp2_with fail;refine(av.out _).mono ?_;rintro e w4⟨rfl,P⟩;have aA:=hid (Z.out.kept P);have ax:=hid (ad.out.trans (P.mono ad.out.size));clear P F E D C af ae ad ab aa Z;go_wp2_with fail;go_ret;exact⟨_,rfl,aF.out.symm,ax.out⟩
 .by_cases hm:B6 (p8 (f,d,c,a))=1
  .have bv:has (f,d,c,a) 10=true:=by
    cases h:has (f,d,c,a) 10 with
    | true=>rfl
    | false=>exact absurd (ay.2 ⟨hm,h⟩) hc
   have ao:B6 (f,d,c,a)≠1:=by omega
   have aq:F6 (f,d,c,a)=91::(Q2 (f,d,c,a) 0++[93]):=by
    unfold F6;rw[if_neg ao,if_neg hc]
   have aF:=hid aq;have bm:((B6 (f,d,c,a):Int)==1)=false:=by simp;omega
   have bb:=hid ao;rw[hm] at aP;rw[bv] at av;clear aO ay hc aq bv aw ao hm;obtain⟨n,aW⟩:∃n,n=B6 (f,d,c,a):=⟨_,rfl⟩
   rw[←aW] at aB bm;clear aW;go_enter func58,ntmps58;go_wp2_with fail;refine(aB.out _).mono ?_;rintro e w1⟨rfl,N⟩;have ab:=hid (bi.out.kept N);have af:=hid (aH.out.trans (N.mono aH.out.size));clear N;obtain⟨⟨F,E,D,C⟩,_⟩:=V1 ab.out;go_wp2_with fail;refine(ba.out _).mono ?_;rintro e w2⟨d0,d1,d2,d3,rfl,hd,R⟩;have aa:=hid (ab.out.kept R);have ae:=hid (af.out.trans (R.mono af.out.size));have HD:=hid hd;clear R hd F E D C;obtain⟨⟨F,E,D,C⟩,_⟩:=V1 aa.out;go_wp2_with fail;refine(aP.out _ d0 d1 d2 d3 HD.out).mono ?_;rintro e w3⟨rfl,Q⟩;have Z:=hid (aa.out.kept Q);have ad:=hid (ae.out.trans (Q.mono ae.out.size));clear Q F E D C;obtain⟨⟨F,E,D,C⟩,_⟩:=V1 Z.out;go_wp2_with fail;refine(av.out _).mono ?_;rintro e w4⟨rfl,P⟩;have aA:=hid (Z.out.kept P);have ax:=hid (ad.out.trans (P.mono ad.out.size));clear P F E D C af ae ad ab aa Z;go_wp2_with fail
   go_loopw [6,7] (λv6 v7 wr=>∃(k:Nat)(s:B_),k<=256/\v7=.int .i64 k/\v6=.string s/\s.size<=2304/\Hid (s.data.toList++Q2 (f,d,c,a) k=Q2 (f,d,c,a) 0)/\Hid (∀j,j<k->B6 (f,d,c,a)=1->has (f,d,c,a) j=false)/\Hid (J0 wr w.heap.size 112 #[.int .u64 f,.int .u64 d,.int .u64 c,.int .u64 a])/\Hid (Below w.heap.size w wr)) (λ_ i _=>256 - (intOf i).toNat)
   case atStart=>exact⟨0,⟨#[]⟩,by omega,rfl,rfl,by show(0:Nat)<=2304;omega,hid (by simp),hid (λj hj=>by omega),aA,ax⟩
   case round =>
    clear aA ax;obtain⟨k,s,hk,rfl,rfl,hs,hR,hN,O,L⟩:=hrel;obtain⟨⟨F,E,D,C⟩,_⟩:=V1 O.out;by_cases hlt:k<256
    .have bs:(k:Int)<256:=by omega
     have ah:=hid (aN.out k hlt);cases hh:has (f,d,c,a) k with
     | false =>
       rw[hh] at ah;have a_:Hid (s.data.toList++Q2 (f,d,c,a) (k+1)=Q2 (f,d,c,a) 0):=hid (by rw[←A15 hlt hh];exact hR.out)
       have bc:Hid (∀j,j<k+1->B6 (f,d,c,a)=1->has (f,d,c,a) j=false):=hid (λj hj h1=>by
        by_cases e:j=k
        .rw[e];exact hh
        .exact hN.out j (by omega) h1)
       clear hh;go_wp2_with fail;refine(ah.out _).mono ?_;rintro e w5⟨rfl,t⟩;have ag:=hid (O.out.kept t);have ak:=hid (L.out.trans (t.mono L.out.size));clear t F E D C;go_wp2_with fail;go_roundw
       case rel=>exact⟨k+1,s,by omega,by go_num,rfl,hs,a_,bc,ag,ak⟩
       case measure=>simp[intOf];omega
     | true =>
       rw[hh] at ah;have aj:=hid hh;clear hh;go_wp2_with fail;refine(ah.out _).mono ?_;rintro e w5⟨rfl,t⟩;have ag:=hid (O.out.kept t);have ak:=hid (L.out.trans (t.mono L.out.size));clear t F E D C;go_wp2_with fail
       go_loopw [7] (λv7 wx=>∃b:Nat,b<=256/\k<=b/\v7=.int .i64 b/\Hid (b=k\/(k<b/\top (f,d,c,a) k=top (f,d,c,a) (b - 1)))/\Hid (J0 wx w.heap.size 112 #[.int .u64 f,.int .u64 d,.int .u64 c,.int .u64 a])/\Hid (Below w.heap.size w wx)) (λi _=>256 - (intOf i).toNat)
       case atStart=>exact⟨k,by omega,by omega,rfl,hid (.inl rfl),ag,ak⟩
       case round =>
        clear ag ak O L;obtain⟨b,hb,br,rfl,hT,O,L⟩:=hrel;obtain⟨⟨F,E,D,C⟩,_⟩:=V1 O.out;by_cases hlb:b<256
        .have N:(b:Int)<256:=by omega
         have ai:=hid (aN.out b hlb);cases hhb:has (f,d,c,a) b with
         | true =>
           rw[hhb] at ai;have y:=hid (A4z hT.out hlb hhb);clear hhb;go_wp2_with fail;refine(ai.out _).mono ?_;rintro e w6⟨rfl,r⟩;have Y:=hid (O.out.kept r);have B:=hid (L.out.trans (r.mono L.out.size));clear r F E D C;go_wp2_with fail;go_roundw
           case rel=>exact⟨b+1,by omega,by omega,by go_num,hid (.inr y.out),Y,B⟩
           case measure=>simp[intOf];omega
         | false =>
           rw[hhb] at ai;have y:=hid (A2W aj.out hlt hT.out (.inr hhb));clear hhb;go_wp2_with fail;refine(ai.out _).mono ?_;rintro e w6⟨rfl,r⟩;have Y:=hid (O.out.kept r);have B:=hid (L.out.trans (r.mono L.out.size));clear r F E D C;have J:=hid (λW=>Z4 k hlt W);have p:=hid (λW=>Z4 (b - 1) (by omega) W);unfold L5 at J p;have aX:k<b:=y.out.1
           have aM:Hid (Q2 (f,d,c,a) k=spT k (b - 1)++Q2 (f,d,c,a) b):=hid (by
            rw[A0R hlt aj.out,y.out.2,show b - 1+1=b by omega])
           have A:Hid (∀s':B_,s'.data.toList=s.data.toList++spT k (b - 1)->s'.data.toList++Q2 (f,d,c,a) b=Q2 (f,d,c,a) 0/\s'.size<=2304):=hid (λs' aK=>by
            have h1:s'.data.toList++Q2 (f,d,c,a) b=Q2 (f,d,c,a) 0:=by rw[aK,List.append_assoc,←aM.out];exact hR.out
            refine⟨h1,?_⟩;have h2:=B9 (f,d,c,a) 0;rw[←h1,List.length_append] at h2;rw[t6];omega)
           have T:Hid (∀j,j<b->B6 (f,d,c,a)=1->has (f,d,c,a) j=false):=hid (λj _ h1=>absurd h1 bb.out);have bl:s.size<=2304:=hs;go_wp2_with fail;refine(J.out _).mono ?_;rintro e w7⟨s1,rfl,G,H⟩;have bk:=A7 G;have M:=hid G;have X:=hid (Y.out.kept H);have q:=hid (B.out.trans (H.mono B.out.size));clear G H y J hR hN;rcases(show b=k+1\/b=k+2\/k+2<b by omega) with hcase|hcase|hcase
           .have e1:(b:Int) - (k:Int)=1:=by omega
            have q2:=df_ ((2:Int)<b - (k:Int));have q1:=df_ ((1:Int)<b - (k:Int));have z:Hid (spT k (b - 1)=C4 k):=hid (by unfold spT;rw[if_pos (by omega)]);have g:((b - 1:Nat):Int)=(b:Int) - 1:=by omega
            rw[g] at p;clear g hcase e1;go_wp2_with fail;go_roundw
            case rel =>
             obtain⟨f1,f2⟩:=A.out (s++s1) (by rw[L0,M.out,z.out]);exact⟨b,_,by omega,rfl,rfl,f2,hid f1,T,X,q⟩
            case measure=>simp[intOf];omega
           .have e1:(b:Int) - (k:Int)=2:=by omega
            have q2:=df_ ((2:Int)<b - (k:Int));have q1:=dt_ ((1:Int)<b - (k:Int));have z:Hid (spT k (b - 1)=C4 k++C4 (b - 1)):=hid (by unfold spT;rw[if_neg (by omega),if_pos (by omega),show b - 1=k+1 by omega]);have g:((b - 1:Nat):Int)=(b:Int) - 1:=by omega
            rw[g] at p;clear g hcase e1;go_wp2_with fail;refine(p.out _).mono ?_;rintro e w8⟨s2,rfl,l,o⟩;have aJ:=A7 l;have S:=hid l;have V:=hid (X.out.kept o);have ac:=hid (q.out.trans (o.mono q.out.size));clear l o;go_wp2_with fail;go_roundw
            case rel =>
             obtain⟨f1,f2⟩:=A.out (s++s1++s2) (by rw[L0,L0,M.out,S.out,z.out,List.append_assoc]);exact⟨b,_,by omega,rfl,rfl,f2,hid f1,T,V,ac⟩
            case measure=>simp[intOf];omega
           .have q2:=dt_ ((2:Int)<b - (k:Int))
            have q1:=dt_ ((1:Int)<b - (k:Int));have z:Hid (spT k (b - 1)=C4 k++[45]++C4 (b - 1)):=hid (by unfold spT;rw[if_neg (by omega),if_neg (by omega)]);have g:((b - 1:Nat):Int)=(b:Int) - 1:=by omega
            rw[g] at p;clear g hcase;go_wp2_with fail;refine(p.out _).mono ?_;rintro e w8⟨s2,rfl,l,o⟩;have aJ:=A7 l;have S:=hid l;have V:=hid (X.out.kept o);have ac:=hid (q.out.trans (o.mono q.out.size));clear l o;go_wp2_with fail;go_roundw
            case rel =>
             obtain⟨f1,f2⟩:=A.out (s++s1++⟨#[45]⟩++s2) (by rw[L0,L0,L0,M.out,S.out,z.out];simp);exact⟨b,_,by omega,rfl,rfl,f2,hid f1,T,V,ac⟩
            case measure=>simp[intOf];omega
        .have bu:=df_ ((b:Int)<256)
         have y:=hid (A2W aj.out hlt hT.out (.inl (by omega)));have Y:=O;have B:=L;clear O L F E D C;have J:=hid (λW=>Z4 k hlt W);have p:=hid (λW=>Z4 (b - 1) (by omega) W);unfold L5 at J p;have aX:k<b:=y.out.1
         have aM:Hid (Q2 (f,d,c,a) k=spT k (b - 1)++Q2 (f,d,c,a) b):=hid (by
          rw[A0R hlt aj.out,y.out.2,show b - 1+1=b by omega])
         have A:Hid (∀s':B_,s'.data.toList=s.data.toList++spT k (b - 1)->s'.data.toList++Q2 (f,d,c,a) b=Q2 (f,d,c,a) 0/\s'.size<=2304):=hid (λs' aK=>by
          have h1:s'.data.toList++Q2 (f,d,c,a) b=Q2 (f,d,c,a) 0:=by rw[aK,List.append_assoc,←aM.out];exact hR.out
          refine⟨h1,?_⟩;have h2:=B9 (f,d,c,a) 0;rw[←h1,List.length_append] at h2;rw[t6];omega)
         have T:Hid (∀j,j<b->B6 (f,d,c,a)=1->has (f,d,c,a) j=false):=hid (λj _ h1=>absurd h1 bb.out);have bl:s.size<=2304:=hs;go_wp2_with fail;refine(J.out _).mono ?_;rintro e w7⟨s1,rfl,G,H⟩;have bk:=A7 G;have M:=hid G;have X:=hid (Y.out.kept H);have q:=hid (B.out.trans (H.mono B.out.size));clear G H y J hR hN;rcases(show b=k+1\/b=k+2\/k+2<b by omega) with hcase|hcase|hcase
         .have e1:(b:Int) - (k:Int)=1:=by omega
          have q2:=df_ ((2:Int)<b - (k:Int));have q1:=df_ ((1:Int)<b - (k:Int));have z:Hid (spT k (b - 1)=C4 k):=hid (by unfold spT;rw[if_pos (by omega)]);have g:((b - 1:Nat):Int)=(b:Int) - 1:=by omega
          rw[g] at p;clear g hcase e1;go_wp2_with fail;go_roundw
          case rel =>
           obtain⟨f1,f2⟩:=A.out (s++s1) (by rw[L0,M.out,z.out]);exact⟨b,_,by omega,rfl,rfl,f2,hid f1,T,X,q⟩
          case measure=>simp[intOf];omega
         .have e1:(b:Int) - (k:Int)=2:=by omega
          have q2:=df_ ((2:Int)<b - (k:Int));have q1:=dt_ ((1:Int)<b - (k:Int));have z:Hid (spT k (b - 1)=C4 k++C4 (b - 1)):=hid (by unfold spT;rw[if_neg (by omega),if_pos (by omega),show b - 1=k+1 by omega]);have g:((b - 1:Nat):Int)=(b:Int) - 1:=by omega
          rw[g] at p;clear g hcase e1;go_wp2_with fail;refine(p.out _).mono ?_;rintro e w8⟨s2,rfl,l,o⟩;have aJ:=A7 l;have S:=hid l;have V:=hid (X.out.kept o);have ac:=hid (q.out.trans (o.mono q.out.size));clear l o;go_wp2_with fail;go_roundw
          case rel =>
           obtain⟨f1,f2⟩:=A.out (s++s1++s2) (by rw[L0,L0,M.out,S.out,z.out,List.append_assoc]);exact⟨b,_,by omega,rfl,rfl,f2,hid f1,T,V,ac⟩
          case measure=>simp[intOf];omega
         .have q2:=dt_ ((2:Int)<b - (k:Int))
          have q1:=dt_ ((1:Int)<b - (k:Int));have z:Hid (spT k (b - 1)=C4 k++[45]++C4 (b - 1)):=hid (by unfold spT;rw[if_neg (by omega),if_neg (by omega)]);have g:((b - 1:Nat):Int)=(b:Int) - 1:=by omega
          rw[g] at p;clear g hcase;go_wp2_with fail;refine(p.out _).mono ?_;rintro e w8⟨s2,rfl,l,o⟩;have aJ:=A7 l;have S:=hid l;have V:=hid (X.out.kept o);have ac:=hid (q.out.trans (o.mono q.out.size));clear l o;go_wp2_with fail;go_roundw
          case rel =>
           obtain⟨f1,f2⟩:=A.out (s++s1++⟨#[45]⟩++s2) (by rw[L0,L0,L0,M.out,S.out,z.out];simp);exact⟨b,_,by omega,rfl,rfl,f2,hid f1,T,V,ac⟩
          case measure=>simp[intOf];omega
    .obtain rfl:k=256:=by omega
     have aD:s.data.toList=Q2 (f,d,c,a) 0:=by have:=hR.out;rw[A2Y (by omega),List.append_nil] at this;exact this
     have be:=hid aD;clear aD hR O;go_wp2_with fail;go_ret;exact⟨_,rfl,by rw[aF.out,L0,L0,be.out];rfl,L.out⟩
  .have bE:((B6 (p8 (f,d,c,a)):Int)==1)=false:=by simp;omega
   generalize B6 (p8 (f,d,c,a))=m at *;by_cases ao:B6 (f,d,c,a)=1
   .have aq:F6 (f,d,c,a)=C4 (R7 (f,d,c,a) 0):=by
     unfold F6;rw[if_pos ao]
    have aF:=hid aq;have aG:=hid (F8 ao);have bC:=hid ao;rw[ao] at aB;clear aO ay hc aq aw ao hm;go_enter func58,ntmps58;go_wp2_with fail;refine(aB.out _).mono ?_;rintro e w1⟨rfl,N⟩;have ab:=hid (bi.out.kept N);have af:=hid (aH.out.trans (N.mono aH.out.size));clear N;obtain⟨⟨F,E,D,C⟩,_⟩:=V1 ab.out;go_wp2_with fail;refine(ba.out _).mono ?_;rintro e w2⟨d0,d1,d2,d3,rfl,hd,R⟩;have aa:=hid (ab.out.kept R);have ae:=hid (af.out.trans (R.mono af.out.size));have HD:=hid hd;clear R hd F E D C;obtain⟨⟨F,E,D,C⟩,_⟩:=V1 aa.out;go_wp2_with fail;refine(aP.out _ d0 d1 d2 d3 HD.out).mono ?_;rintro e w3⟨rfl,Q⟩;have Z:=hid (aa.out.kept Q);have ad:=hid (ae.out.trans (Q.mono ae.out.size));clear Q F E D C;obtain⟨⟨F,E,D,C⟩,_⟩:=V1 Z.out;go_wp2_with fail;refine(av.out _).mono ?_;rintro e w4⟨rfl,P⟩;have aA:=hid (Z.out.kept P);have ax:=hid (ad.out.trans (P.mono ad.out.size));clear P F E D C af ae ad ab aa Z;go_wp2_with fail
    go_loopw [6,7] (λv6 v7 wr=>∃(k:Nat)(s:B_),k<=256/\v7=.int .i64 k/\v6=.string s/\s.size<=2304/\Hid (s.data.toList++Q2 (f,d,c,a) k=Q2 (f,d,c,a) 0)/\Hid (∀j,j<k->B6 (f,d,c,a)=1->has (f,d,c,a) j=false)/\Hid (J0 wr w.heap.size 112 #[.int .u64 f,.int .u64 d,.int .u64 c,.int .u64 a])/\Hid (Below w.heap.size w wr)) (λ_ i _=>256 - (intOf i).toNat)
    case atStart=>exact⟨0,⟨#[]⟩,by omega,rfl,rfl,by show(0:Nat)<=2304;omega,hid (by simp),hid (λj hj=>by omega),aA,ax⟩
    case round =>
     clear aA ax;obtain⟨k,s,hk,rfl,rfl,hs,hR,hN,O,L⟩:=hrel;obtain⟨⟨F,E,D,C⟩,_⟩:=V1 O.out;by_cases hlt:k<256
     .have bs:(k:Int)<256:=by omega
      have ah:=hid (aN.out k hlt);cases hh:has (f,d,c,a) k with
      | false =>
        rw[hh] at ah;have a_:Hid (s.data.toList++Q2 (f,d,c,a) (k+1)=Q2 (f,d,c,a) 0):=hid (by rw[←A15 hlt hh];exact hR.out)
        have bc:Hid (∀j,j<k+1->B6 (f,d,c,a)=1->has (f,d,c,a) j=false):=hid (λj hj h1=>by
         by_cases e:j=k
         .rw[e];exact hh
         .exact hN.out j (by omega) h1)
        clear hh;go_wp2_with fail;refine(ah.out _).mono ?_;rintro e w5⟨rfl,t⟩;have ag:=hid (O.out.kept t);have ak:=hid (L.out.trans (t.mono L.out.size));clear t F E D C;go_wp2_with fail;go_roundw
        case rel=>exact⟨k+1,s,by omega,by go_num,rfl,hs,a_,bc,ag,ak⟩
        case measure=>simp[intOf];omega
      | true =>
        rw[hh] at ah;have aj:=hid hh;clear hh;go_wp2_with fail;refine(ah.out _).mono ?_;rintro e w5⟨rfl,t⟩;have ag:=hid (O.out.kept t);have ak:=hid (L.out.trans (t.mono L.out.size));clear t F E D C;go_wp2_with fail
        go_loopw [7] (λv7 wx=>∃b:Nat,b<=256/\k<=b/\v7=.int .i64 b/\Hid (b=k\/(k<b/\top (f,d,c,a) k=top (f,d,c,a) (b - 1)))/\Hid (J0 wx w.heap.size 112 #[.int .u64 f,.int .u64 d,.int .u64 c,.int .u64 a])/\Hid (Below w.heap.size w wx)) (λi _=>256 - (intOf i).toNat)
        case atStart=>exact⟨k,by omega,by omega,rfl,hid (.inl rfl),ag,ak⟩
        case round =>
         clear ag ak O L;obtain⟨b,hb,br,rfl,hT,O,L⟩:=hrel;obtain⟨⟨F,E,D,C⟩,_⟩:=V1 O.out;by_cases hlb:b<256
         .have N:(b:Int)<256:=by omega
          have ai:=hid (aN.out b hlb);cases hhb:has (f,d,c,a) b with
          | true =>
            rw[hhb] at ai;have y:=hid (A4z hT.out hlb hhb);clear hhb;go_wp2_with fail;refine(ai.out _).mono ?_;rintro e w6⟨rfl,r⟩;have Y:=hid (O.out.kept r);have B:=hid (L.out.trans (r.mono L.out.size));clear r F E D C;go_wp2_with fail;go_roundw
            case rel=>exact⟨b+1,by omega,by omega,by go_num,hid (.inr y.out),Y,B⟩
            case measure=>simp[intOf];omega
          | false =>
            rw[hhb] at ai;have y:=hid (A2W aj.out hlt hT.out (.inr hhb));clear hhb;go_wp2_with fail;refine(ai.out _).mono ?_;rintro e w6⟨rfl,r⟩;have Y:=hid (O.out.kept r);have B:=hid (L.out.trans (r.mono L.out.size));clear r F E D C;have aC:R7 (f,d,c,a) 0=k:=((aG.out.2 k hlt).1 aj.out).symm;have bd:=hid aC;have J:=hid (λW=>Z4 k hlt W);unfold L5 at J;clear aC;go_wp2_with fail;refine(J.out _).mono ?_;rintro e w7⟨s1,rfl,G,H⟩;have M:=hid G;have q:=hid (B.out.trans (H.mono B.out.size));clear G H;go_wp2_with fail;go_ret;exact⟨s1,rfl,by rw[M.out,aF.out,bd.out],q.out⟩
         .have bu:=df_ ((b:Int)<256)
          have y:=hid (A2W aj.out hlt hT.out (.inl (by omega)));have Y:=O;have B:=L;clear O L F E D C;have aC:R7 (f,d,c,a) 0=k:=((aG.out.2 k hlt).1 aj.out).symm;have bd:=hid aC;have J:=hid (λW=>Z4 k hlt W);unfold L5 at J;clear aC;go_wp2_with fail;refine(J.out _).mono ?_;rintro e w7⟨s1,rfl,G,H⟩;have M:=hid G;have q:=hid (B.out.trans (H.mono B.out.size));clear G H;go_wp2_with fail;go_ret;exact⟨s1,rfl,by rw[M.out,aF.out,bd.out],q.out⟩
     .obtain rfl:k=256:=by omega
      exact absurd (aG.out.2 (R7 (f,d,c,a) 0) aG.out.1 |>.2 rfl) (by rw[hN.out _ aG.out.1 bC.out];simp)
   .have aq:F6 (f,d,c,a)=91::(Q2 (f,d,c,a) 0++[93]):=by
     unfold F6;rw[if_neg ao,if_neg hc]
    have aF:=hid aq;have bm:((B6 (f,d,c,a):Int)==1)=false:=by simp;omega
    have bb:=hid ao;clear aO ay hc aq aw ao hm;obtain⟨n,aW⟩:∃n,n=B6 (f,d,c,a):=⟨_,rfl⟩
    rw[←aW] at aB bm;clear aW;go_enter func58,ntmps58;go_wp2_with fail;refine(aB.out _).mono ?_;rintro e w1⟨rfl,N⟩;have ab:=hid (bi.out.kept N);have af:=hid (aH.out.trans (N.mono aH.out.size));clear N;obtain⟨⟨F,E,D,C⟩,_⟩:=V1 ab.out;go_wp2_with fail;refine(ba.out _).mono ?_;rintro e w2⟨d0,d1,d2,d3,rfl,hd,R⟩;have aa:=hid (ab.out.kept R);have ae:=hid (af.out.trans (R.mono af.out.size));have HD:=hid hd;clear R hd F E D C;obtain⟨⟨F,E,D,C⟩,_⟩:=V1 aa.out;go_wp2_with fail;refine(aP.out _ d0 d1 d2 d3 HD.out).mono ?_;rintro e w3⟨rfl,Q⟩;have Z:=hid (aa.out.kept Q);have ad:=hid (ae.out.trans (Q.mono ae.out.size));clear Q F E D C;obtain⟨⟨F,E,D,C⟩,_⟩:=V1 Z.out;go_wp2_with fail;refine(av.out _).mono ?_;rintro e w4⟨rfl,P⟩;have aA:=hid (Z.out.kept P);have ax:=hid (ad.out.trans (P.mono ad.out.size));clear P F E D C af ae ad ab aa Z;go_wp2_with fail
    go_loopw [6,7] (λv6 v7 wr=>∃(k:Nat)(s:B_),k<=256/\v7=.int .i64 k/\v6=.string s/\s.size<=2304/\Hid (s.data.toList++Q2 (f,d,c,a) k=Q2 (f,d,c,a) 0)/\Hid (∀j,j<k->B6 (f,d,c,a)=1->has (f,d,c,a) j=false)/\Hid (J0 wr w.heap.size 112 #[.int .u64 f,.int .u64 d,.int .u64 c,.int .u64 a])/\Hid (Below w.heap.size w wr)) (λ_ i _=>256 - (intOf i).toNat)
    case atStart=>exact⟨0,⟨#[]⟩,by omega,rfl,rfl,by show(0:Nat)<=2304;omega,hid (by simp),hid (λj hj=>by omega),aA,ax⟩
    case round =>
     clear aA ax;obtain⟨k,s,hk,rfl,rfl,hs,hR,hN,O,L⟩:=hrel;obtain⟨⟨F,E,D,C⟩,_⟩:=V1 O.out;by_cases hlt:k<256
     .have bs:(k:Int)<256:=by omega
      have ah:=hid (aN.out k hlt);cases hh:has (f,d,c,a) k with
      | false =>
        rw[hh] at ah;have a_:Hid (s.data.toList++Q2 (f,d,c,a) (k+1)=Q2 (f,d,c,a) 0):=hid (by rw[←A15 hlt hh];exact hR.out)
        have bc:Hid (∀j,j<k+1->B6 (f,d,c,a)=1->has (f,d,c,a) j=false):=hid (λj hj h1=>by
         by_cases e:j=k
         .rw[e];exact hh
         .exact hN.out j (by omega) h1)
        clear hh;go_wp2_with fail;refine(ah.out _).mono ?_;rintro e w5⟨rfl,t⟩;have ag:=hid (O.out.kept t);have ak:=hid (L.out.trans (t.mono L.out.size));clear t F E D C;go_wp2_with fail;go_roundw
        case rel=>exact⟨k+1,s,by omega,by go_num,rfl,hs,a_,bc,ag,ak⟩
        case measure=>simp[intOf];omega
      | true =>
        rw[hh] at ah;have aj:=hid hh;clear hh;go_wp2_with fail;refine(ah.out _).mono ?_;rintro e w5⟨rfl,t⟩;have ag:=hid (O.out.kept t);have ak:=hid (L.out.trans (t.mono L.out.size));clear t F E D C;go_wp2_with fail
        go_loopw [7] (λv7 wx=>∃b:Nat,b<=256/\k<=b/\v7=.int .i64 b/\Hid (b=k\/(k<b/\top (f,d,c,a) k=top (f,d,c,a) (b - 1)))/\Hid (J0 wx w.heap.size 112 #[.int .u64 f,.int .u64 d,.int .u64 c,.int .u64 a])/\Hid (Below w.heap.size w wx)) (λi _=>256 - (intOf i).toNat)
        case atStart=>exact⟨k,by omega,by omega,rfl,hid (.inl rfl),ag,ak⟩
        case round =>
         clear ag ak O L;obtain⟨b,hb,br,rfl,hT,O,L⟩:=hrel;obtain⟨⟨F,E,D,C⟩,_⟩:=V1 O.out;by_cases hlb:b<256
         .have N:(b:Int)<256:=by omega
          have ai:=hid (aN.out b hlb);cases hhb:has (f,d,c,a) b with
          | true =>
            rw[hhb] at ai;have y:=hid (A4z hT.out hlb hhb);clear hhb;go_wp2_with fail;refine(ai.out _).mono ?_;rintro e w6⟨rfl,r⟩;have Y:=hid (O.out.kept r);have B:=hid (L.out.trans (r.mono L.out.size));clear r F E D C;go_wp2_with fail;go_roundw
            case rel=>exact⟨b+1,by omega,by omega,by go_num,hid (.inr y.out),Y,B⟩
            case measure=>simp[intOf];omega
          | false =>
            rw[hhb] at ai;have y:=hid (A2W aj.out hlt hT.out (.inr hhb));clear hhb;go_wp2_with fail;refine(ai.out _).mono ?_;rintro e w6⟨rfl,r⟩;have Y:=hid (O.out.kept r);have B:=hid (L.out.trans (r.mono L.out.size));clear r F E D C;have J:=hid (λW=>Z4 k hlt W);have p:=hid (λW=>Z4 (b - 1) (by omega) W);unfold L5 at J p;have aX:k<b:=y.out.1
            have aM:Hid (Q2 (f,d,c,a) k=spT k (b - 1)++Q2 (f,d,c,a) b):=hid (by
             rw[A0R hlt aj.out,y.out.2,show b - 1+1=b by omega])
            have A:Hid (∀s':B_,s'.data.toList=s.data.toList++spT k (b - 1)->s'.data.toList++Q2 (f,d,c,a) b=Q2 (f,d,c,a) 0/\s'.size<=2304):=hid (λs' aK=>by
             have h1:s'.data.toList++Q2 (f,d,c,a) b=Q2 (f,d,c,a) 0:=by rw[aK,List.append_assoc,←aM.out];exact hR.out
             refine⟨h1,?_⟩;have h2:=B9 (f,d,c,a) 0;rw[←h1,List.length_append] at h2;rw[t6];omega)
            have T:Hid (∀j,j<b->B6 (f,d,c,a)=1->has (f,d,c,a) j=false):=hid (λj _ h1=>absurd h1 bb.out);have bl:s.size<=2304:=hs;go_wp2_with fail;refine(J.out _).mono ?_;rintro e w7⟨s1,rfl,G,H⟩;have bk:=A7 G;have M:=hid G;have X:=hid (Y.out.kept H);have q:=hid (B.out.trans (H.mono B.out.size));clear G H y J hR hN;rcases(show b=k+1\/b=k+2\/k+2<b by omega) with hcase|hcase|hcase
            .have e1:(b:Int) - (k:Int)=1:=by omega
             have q2:=df_ ((2:Int)<b - (k:Int));have q1:=df_ ((1:Int)<b - (k:Int));have z:Hid (spT k (b - 1)=C4 k):=hid (by unfold spT;rw[if_pos (by omega)]);have g:((b - 1:Nat):Int)=(b:Int) - 1:=by omega
             rw[g] at p;clear g hcase e1;go_wp2_with fail;go_roundw
             case rel =>
              obtain⟨f1,f2⟩:=A.out (s++s1) (by rw[L0,M.out,z.out]);exact⟨b,_,by omega,rfl,rfl,f2,hid f1,T,X,q⟩
             case measure=>simp[intOf];omega
            .have e1:(b:Int) - (k:Int)=2:=by omega
             have q2:=df_ ((2:Int)<b - (k:Int));have q1:=dt_ ((1:Int)<b - (k:Int));have z:Hid (spT k (b - 1)=C4 k++C4 (b - 1)):=hid (by unfold spT;rw[if_neg (by omega),if_pos (by omega),show b - 1=k+1 by omega]);have g:((b - 1:Nat):Int)=(b:Int) - 1:=by omega
             rw[g] at p;clear g hcase e1;go_wp2_with fail;refine(p.out _).mono ?_;rintro e w8⟨s2,rfl,l,o⟩;have aJ:=A7 l;have S:=hid l;have V:=hid (X.out.kept o);have ac:=hid (q.out.trans (o.mono q.out.size));clear l o;go_wp2_with fail;go_roundw
             case rel =>
              obtain⟨f1,f2⟩:=A.out (s++s1++s2) (by rw[L0,L0,M.out,S.out,z.out,List.append_assoc]);exact⟨b,_,by omega,rfl,rfl,f2,hid f1,T,V,ac⟩
             case measure=>simp[intOf];omega
            .have q2:=dt_ ((2:Int)<b - (k:Int))
             have q1:=dt_ ((1:Int)<b - (k:Int));have z:Hid (spT k (b - 1)=C4 k++[45]++C4 (b - 1)):=hid (by unfold spT;rw[if_neg (by omega),if_neg (by omega)]);have g:((b - 1:Nat):Int)=(b:Int) - 1:=by omega
             rw[g] at p;clear g hcase;go_wp2_with fail;refine(p.out _).mono ?_;rintro e w8⟨s2,rfl,l,o⟩;have aJ:=A7 l;have S:=hid l;have V:=hid (X.out.kept o);have ac:=hid (q.out.trans (o.mono q.out.size));clear l o;go_wp2_with fail;go_roundw
             case rel =>
              obtain⟨f1,f2⟩:=A.out (s++s1++⟨#[45]⟩++s2) (by rw[L0,L0,L0,M.out,S.out,z.out];simp);exact⟨b,_,by omega,rfl,rfl,f2,hid f1,T,V,ac⟩
             case measure=>simp[intOf];omega
         .have bu:=df_ ((b:Int)<256)
          have y:=hid (A2W aj.out hlt hT.out (.inl (by omega)));have Y:=O;have B:=L;clear O L F E D C;have J:=hid (λW=>Z4 k hlt W);have p:=hid (λW=>Z4 (b - 1) (by omega) W);unfold L5 at J p;have aX:k<b:=y.out.1
          have aM:Hid (Q2 (f,d,c,a) k=spT k (b - 1)++Q2 (f,d,c,a) b):=hid (by
           rw[A0R hlt aj.out,y.out.2,show b - 1+1=b by omega])
          have A:Hid (∀s':B_,s'.data.toList=s.data.toList++spT k (b - 1)->s'.data.toList++Q2 (f,d,c,a) b=Q2 (f,d,c,a) 0/\s'.size<=2304):=hid (λs' aK=>by
           have h1:s'.data.toList++Q2 (f,d,c,a) b=Q2 (f,d,c,a) 0:=by rw[aK,List.append_assoc,←aM.out];exact hR.out
           refine⟨h1,?_⟩;have h2:=B9 (f,d,c,a) 0;rw[←h1,List.length_append] at h2;rw[t6];omega)
          have T:Hid (∀j,j<b->B6 (f,d,c,a)=1->has (f,d,c,a) j=false):=hid (λj _ h1=>absurd h1 bb.out);have bl:s.size<=2304:=hs;go_wp2_with fail;refine(J.out _).mono ?_;rintro e w7⟨s1,rfl,G,H⟩;have bk:=A7 G;have M:=hid G;have X:=hid (Y.out.kept H);have q:=hid (B.out.trans (H.mono B.out.size));clear G H y J hR hN;rcases(show b=k+1\/b=k+2\/k+2<b by omega) with hcase|hcase|hcase
          .have e1:(b:Int) - (k:Int)=1:=by omega
           have q2:=df_ ((2:Int)<b - (k:Int));have q1:=df_ ((1:Int)<b - (k:Int));have z:Hid (spT k (b - 1)=C4 k):=hid (by unfold spT;rw[if_pos (by omega)]);have g:((b - 1:Nat):Int)=(b:Int) - 1:=by omega
           rw[g] at p;clear g hcase e1;go_wp2_with fail;go_roundw
           case rel =>
            obtain⟨f1,f2⟩:=A.out (s++s1) (by rw[L0,M.out,z.out]);exact⟨b,_,by omega,rfl,rfl,f2,hid f1,T,X,q⟩
           case measure=>simp[intOf];omega
          .have e1:(b:Int) - (k:Int)=2:=by omega
           have q2:=df_ ((2:Int)<b - (k:Int));have q1:=dt_ ((1:Int)<b - (k:Int));have z:Hid (spT k (b - 1)=C4 k++C4 (b - 1)):=hid (by unfold spT;rw[if_neg (by omega),if_pos (by omega),show b - 1=k+1 by omega]);have g:((b - 1:Nat):Int)=(b:Int) - 1:=by omega
           rw[g] at p;clear g hcase e1;go_wp2_with fail;refine(p.out _).mono ?_;rintro e w8⟨s2,rfl,l,o⟩;have aJ:=A7 l;have S:=hid l;have V:=hid (X.out.kept o);have ac:=hid (q.out.trans (o.mono q.out.size));clear l o;go_wp2_with fail;go_roundw
           case rel =>
            obtain⟨f1,f2⟩:=A.out (s++s1++s2) (by rw[L0,L0,M.out,S.out,z.out,List.append_assoc]);exact⟨b,_,by omega,rfl,rfl,f2,hid f1,T,V,ac⟩
           case measure=>simp[intOf];omega
          .have q2:=dt_ ((2:Int)<b - (k:Int))
           have q1:=dt_ ((1:Int)<b - (k:Int));have z:Hid (spT k (b - 1)=C4 k++[45]++C4 (b - 1)):=hid (by unfold spT;rw[if_neg (by omega),if_neg (by omega)]);have g:((b - 1:Nat):Int)=(b:Int) - 1:=by omega
           rw[g] at p;clear g hcase;go_wp2_with fail;refine(p.out _).mono ?_;rintro e w8⟨s2,rfl,l,o⟩;have aJ:=A7 l;have S:=hid l;have V:=hid (X.out.kept o);have ac:=hid (q.out.trans (o.mono q.out.size));clear l o;go_wp2_with fail;go_roundw
           case rel =>
            obtain⟨f1,f2⟩:=A.out (s++s1++⟨#[45]⟩++s2) (by rw[L0,L0,L0,M.out,S.out,z.out];simp);exact⟨b,_,by omega,rfl,rfl,f2,hid f1,T,V,ac⟩
           case measure=>simp[intOf];omega
     .obtain rfl:k=256:=by omega
      have aD:s.data.toList=Q2 (f,d,c,a) 0:=by have:=hR.out;rw[A2Y (by omega),List.append_nil] at this;exact this
      have be:=hid aD;clear aD hR O;go_wp2_with fail;go_ret;exact⟨_,rfl,by rw[aF.out,L0,L0,be.out];rfl,L.out⟩
