import Derived.Test.YthhcpbfgoofppaaGreatDoorDsD
import Derived.Test.YthhcpbfgoofppaaGreatDoorGRm
import Derived.Test.YthhcpbfgoofppaaGreatDoorHRtx
set_option linter.unusedVariables false
set_option linter.unusedSimpArgs false
open Wf
set_option maxRecDepth 100000
set_option maxHeartbeats 8000000
open Go.Lib (hid)
open Go.Proofs.Tryz hiding parts
namespace Wf
theorem A9C{c:U_}{s:B_}{a b:List U_}(h:O4 c s.data.toList=some (a,b)):∃k,k<s.size/\s.data.toList[k]?=some c/\(∀j:Nat,j<k->s.data.toList[j]?≠some c)/\a=(s.extract 0 k).data.toList/\b=(s.extract (k+1) s.size).data.toList:=by
 have f:s.data.toList.length=s.size:=by simp
 unfold O4 at h
 split at h
 .cases h
 .rename_i k i
  obtain⟨hlt,d,g⟩:=List.findIdx?_eq_some_iff_getElem.1 i;injection h with h
  injection h with h1 h2
  refine⟨k,by omega,?_,λj l e=>?_,?_,?_⟩
  .rw[List.getElem?_eq_getElem hlt,beq_iff_eq.1 d]
  .obtain⟨n,m⟩:=List.getElem?_eq_some_iff.1 e
   apply g j l;rw[m];exact beq_self_eq_true c
  .rw[A2D,←h1];simp
  .rw[A2D,←h2,List.take_of_length_le (by omega)]
theorem A9B{c:U_}{s:B_}(h:O4 c s.data.toList=none):∀j:Nat,s.data.toList[j]?≠some c:=λj e=>B5e h c (List.mem_of_getElem? e) rfl
end Wf
namespace Go.Proofs.YthhcpbfgoofppaaGreatDoor.setW
open Go.RowKit Wf
def F3(r:List U_)(B b:Nat)(m:SS)(w:W_)(e:Ending)(w':W_):Prop :=
 ∃(t:B_)(d c:V_) (a:List V_),e=.returned (.string t)/\t.data.toList=r/\o9 B b m d c a w'/\DK B b w w'
theorem Q1{s:B_}{l:List U_}(h:s.data.toList≠l):(s.toList==l)=false:=by
 rw[beq_eq_false_iff_ne,Lib.toList_data];exact h
def NLd(s:B_):Prop:=s.size<=3000/\s.data.toList≠[108,105,115,116]/\s.data.toList≠[111,110]/\s.data.toList≠[111,102,102]/\s.data.toList≠[116,114,105,101,100]
theorem NLd.at{s:B_}(h:NLd s):s.size<=3000/\(s.toList==[108,105,115,116])=false/\(s.toList==[111,110])=false/\(s.toList==[111,102,102])=false/\(s.toList==[116,114,105,101,100])=false :=
 ⟨h.1,Q1 h.2.1,Q1 h.2.2.1,Q1 h.2.2.2.1,Q1 h.2.2.2.2⟩
theorem C5{s:B_}{l:List U_}(h:s.data.toList=l)(r:List U_):(s.toList==r)=(l==r):=by
 rw[Lib.toList_data,h]
theorem R4{s:B_}{j:Nat}{c:U_}(a:j<s.size)(h:s.data.toList[j]?≠some c):(((s[j]'a).toNat:Int) !=(c.toNat:Int))=true:=by
 have b:=A3e a;rw[b] at h;rw[bne_iff_ne];intro e;exact h (congrArg some (UInt8.toNat_inj.1 (by omega)))
theorem Y6{s:B_}{j:Nat}{c:U_}(a:j<s.size)(h:s.data.toList[j]?=some c):(((s[j]'a).toNat:Int) !=(c.toNat:Int))=false:=by
 have b:=A3e a;rw[b] at h;injection h with h
 rw[h];simp
theorem Q8{s:B_}{k:Nat}(d:s.size<=3000)(c:k<s.size)(g:s.data.toList[k]?=some 32)(f:∀j:Nat,j<k->s.data.toList[j]?≠some 32):
 Hid (∀(j:Nat)(b:j<s.size),j<k->(((s[j]'b).toNat:Int) !=32)=true)/\(((s[k]'c).toNat:Int) !=32)=false/\(0:Int)<=k/\(k:Int)<=s.size/\(0:Int)<=k+1/\(k:Int)+1<=(s.size:Int) /\
  decide ((k:Int)<s.size)=true/\((k:Int)==(s.size:Int))=false/\(s.extract (k+1) s.size).size<=3000 :=
 ⟨hid λj b a=>R4 b (f j a),Y6 c g,by omega,by omega,by omega,by omega,decide_eq_true (by omega),by rw[beq_eq_false_iff_ne];omega,Nat.le_trans (N5 _ _ _) d⟩
theorem A2b{n:Nat}(h:n<100000):∃D:B_,D.data.toList=Lib.decDigits n/\D.size<=5/\∀W,Calls prog 31 #[.int .i64 n] W (λe w'=>e=.returned (.string D)/\W=w'):=by
 refine⟨⟨(Lib.decDigits n).toArray⟩,rfl,?_,λW=>(A9f n h W).mono ?_⟩
 .have:=A1O h
  simpa[ByteArray.size] using this
 .rintro e w'⟨s,rfl,a,_,rfl⟩
  rw[show s=⟨(Lib.decDigits n).toArray⟩ from ByteArray.ext (Array.toList_inj.1 a)];exact⟨rfl,rfl⟩
theorem A0c(s:B_)(a e:Nat)(d:e<=6)(c:a<100000):∃T:B_,T.data.toList=D6 s.data.toList a e/\∀W,Calls prog 33 #[.string s,.int .i64 a,.int .i64 e] W (λe w'=>e=.returned (.string T)/\W=w'):=by
 refine⟨⟨(D6 s.data.toList a e).toArray⟩,rfl,λW=>(B74 s a e d c W).mono ?_⟩;rintro e w'⟨t,rfl,b,rfl⟩;rw[show t=⟨(D6 s.data.toList a _).toArray⟩ from ByteArray.ext (Array.toList_inj.1 b)];exact⟨rfl,rfl⟩
theorem A7M(s x:B_)(c:s.size<=100000)(b:x.size<=100000):∃T:B_,T.data.toList=A05 s.data.toList x.data.toList/\∀W,Calls prog 34 #[.string s,.string x] W (λe w'=>e=.returned (.string T)/\W=w'):=by
 refine⟨⟨(A05 s.data.toList x.data.toList).toArray⟩,rfl,λW=>(B9T s x c b W).mono ?_⟩;rintro e w'⟨t,rfl,a,rfl⟩;rw[show t=⟨(A05 s.data.toList x.data.toList).toArray⟩ from ByteArray.ext (Array.toList_inj.1 a)];exact⟨rfl,rfl⟩
theorem A8Q(s:B_):∃T:B_,T.data.toList=T2 s.data.toList/\∀W,Calls prog 35 #[.string s] W (λe w'=>e=.returned (.string T)/\W=w'):=by
 refine⟨⟨(T2 s.data.toList).toArray⟩,rfl,λW=>(B3x s W).mono ?_⟩;rintro e w'⟨t,rfl,a,rfl⟩;rw[show t=⟨(T2 s.data.toList).toArray⟩ from ByteArray.ext (Array.toList_inj.1 a)];exact⟨rfl,rfl⟩
theorem B5Y(B b:Nat)(m:SS)(f d:V_)(c:List V_)(w:W_)(h:o9 B b m f d c w)(a:m.small 3000):
 Calls prog 12 #[.pointer (some ⟨b,0,none⟩),.string ⟨#[111,110]⟩] w (F3 (A1d) B b ({ m with on:=true }) w):=by
 unfold F3;have g:=h.blk.frozen 3;have i:w.cell? ⟨b,3,none⟩=some (.bool m.on):=h.blk.cell 3;have H:=hid h;clear h a;go_enter func12,ntmps12;go_wp2_with fail;go_ret;exact⟨_,f,d,c,rfl,rfl,H.out.put { m with on:=true } rfl (H.out.ok.tried true m.tried) H.out.lastb 3 _ rfl,DK.set H.out.hB _ _ _⟩
theorem B3S(B b:Nat)(m:SS)(f d:V_)(c:List V_)(w:W_)(h:o9 B b m f d c w)(a:m.small 3000):
 Calls prog 12 #[.pointer (some ⟨b,0,none⟩),.string ⟨#[111,102,102]⟩] w (F3 (A1d) B b ({ m with on:=false }) w):=by
 unfold F3;have g:=h.blk.frozen 3;have i:w.cell? ⟨b,3,none⟩=some (.bool m.on):=h.blk.cell 3;have H:=hid h;clear h a;go_enter func12,ntmps12;go_wp2_with fail;go_ret;exact⟨_,f,d,c,rfl,rfl,H.out.put { m with on:=false } rfl (H.out.ok.tried false m.tried) H.out.lastb 3 _ rfl,DK.set H.out.hB _ _ _⟩
theorem A86(B b:Nat)(m:SS)(g f:V_)(d:List V_)(w:W_)(h:o9 B b m g f d w)(a:m.small 3000):
 Calls prog 12 #[.pointer (some ⟨b,0,none⟩),.string ⟨#[116,114,105,101,100]⟩] w (F3 (Lib.decDigits m.tried) B b (m) w):=by
 unfold F3;have o:w.cell? ⟨b,4,none⟩=some (.int .i64 m.tried):=h.blk.cell 4;have l:=a.tried;obtain⟨D,i,_,c⟩:=A2b (n:=m.tried) (by omega);have j:=hid c;have H:=hid h;clear h a c;go_enter func12,ntmps12;go_wp2_with fail;refine(j.out _).mono ?_;rintro e k⟨rfl,rfl⟩;go_wp2_with fail;go_ret;exact⟨_,g,f,d,rfl,i,H.out,DK.refl _ _ _⟩
theorem A89(B b:Nat)(m:SS)(n l:V_)(f:List V_)(s:B_)(g:NLd s)(k:∀j:Nat,s.data.toList[j]?≠some 32)(w:W_)(h:o9 B b m n l f w)(a:m.small 3000):
 Calls prog 12 #[.pointer (some ⟨b,0,none⟩),.string s] w (F3 (A2t) B b (m) w):=by
 unfold F3;obtain⟨q,C,A,z,y⟩:=g.at;clear g;have d:Hid (∀(j:Nat)(c:j<s.size),(((s[j]'c).toNat:Int) !=32)=true):=hid λj c=>R4 c (k j)
 have H:=hid h;clear h a k;go_enter func12,ntmps12;go_wp2_with fail
 go_loopw [8] (λv8 wr=>∃i:Nat,i<=s.size/\v8=.int .i64 i/\wr=w) (λv _=>s.size - (intOf v).toNat)
 case atStart=>exact⟨0,by omega,rfl,by first | rfl | trivial⟩
 case round =>
  obtain⟨i,r,rfl,rfl⟩:=hrel;by_cases hik:i<s.size
  .have o:=dt_ ((i:Int)<s.size)
   have p:(0:Int)<=i:=by omega
   have t:=d.out i hik;go_wp2_with fail;go_roundw
   case rel=>exact⟨i+1,by omega,by go_num,by first | rfl | trivial⟩
   case measure=>simp[intOf];omega
  .obtain rfl:i=s.size:=by omega
   have o:=df_ ((s.size:Int)<(s.size:Int));go_wp2_with fail;go_ret;exact⟨_,n,l,f,rfl,rfl,H.out,DK.refl _ _ _⟩
theorem A88(B b:Nat)(m:SS)(t r:V_)(d:List V_)(s:B_)(o:NLd s)(k:Nat)(A:k<s.size)(q:s.data.toList[k]?=some 32)(p:∀j:Nat,j<k->s.data.toList[j]?≠some 32)(n:(s.extract 0 k).data.toList≠[97,100,100])(l:(s.extract 0 k).data.toList≠[114,101,109,111,118,101])(g:(s.extract 0 k).data.toList≠[115,99,97,110])(f:(s.extract 0 k).data.toList≠[112,117,116])(w:W_)(h:o9 B b m t r d w)(a:m.small 3000):
 Calls prog 12 #[.pointer (some ⟨b,0,none⟩),.string s] w (F3 (A2t) B b (m) w):=by
 unfold F3;obtain⟨y,Z,Y,X,V⟩:=o.at;clear o;obtain⟨c,S,J,G,F,E,D,C,z⟩:=Q8 y A q p;clear q p;have R:=Q1 n;have Q:=Q1 l;have P:=Q1 g;have O:=Q1 f;clear n l g f;have H:=hid h;clear h a;go_enter func12,ntmps12;go_wp2_with fail
 go_loopw [8] (λv8 wr=>∃i:Nat,i<=k/\v8=.int .i64 i/\wr=w) (λv _=>s.size - (intOf v).toNat)
 case atStart=>exact⟨0,by omega,rfl,by first | rfl | trivial⟩
 case round =>
  obtain⟨i,N,rfl,rfl⟩:=hrel;by_cases hik:i<k
  .have L:=dt_ ((i:Int)<s.size)
   have M:(0:Int)<=i:=by omega
   have hlt:i<s.size:=by omega
   have T:=c.out i hlt hik;go_wp2_with fail;go_roundw
   case rel=>exact⟨i+1,by omega,by go_num,by first | rfl | trivial⟩
   case measure=>simp[intOf];omega
  .obtain rfl:i=k:=by omega
   go_wp2_with fail;go_ret;exact⟨_,t,r,d,rfl,rfl,H.out,DK.refl _ _ _⟩
theorem B3T(B b:Nat)(m:SS)(L J:V_)(z:List V_)(s:B_)(A:NLd s)(k:Nat)(P:k<s.size)(G:s.data.toList[k]?=some 32)(E:∀j:Nat,j<k->s.data.toList[j]?≠some 32)(C:(s.extract 0 k).data.toList=[97,100,100])(w:W_)(h:o9 B b m L J z w)(a:m.small 3000):
 Calls prog 12 #[.pointer (some ⟨b,0,none⟩),.string s] w (F3 (D6 (Lib.decDigits (m.added (s.extract (k+1) s.size)).1) (m.added (s.extract (k+1) s.size)).2.1 (m.added (s.extract (k+1) s.size)).2.2.toNat) B b (m.add (s.extract (k+1) s.size)) w):=by
 unfold F3;obtain⟨N,e1,e2,e3,e4⟩:=A.at;clear A;obtain⟨r,fb,k0,k1,k2,k3,kd,ke,O⟩:=Q8 N P G E;clear G E;have g1:((s.extract 0 k).toList==[97,100,100])=true:=by rw[C5 C];rfl
 clear C;obtain⟨a1,a2,X,V⟩:=A2J a (by omega) (s.extract (k+1) s.size);have o:=a.last;have c:(m.added (s.extract (k+1) s.size)).2.2=(((m.added (s.extract (k+1) s.size)).2.2.toNat:Nat):Int):=by omega
 have g:=B9V B b m L J z (s.extract (k+1) s.size) w h (by unfold maxLen;omega) (by omega);unfold DTo B4a at g;rw[c] at g;obtain⟨D,H,_,f⟩:=A2b (n:=(m.added (s.extract (k+1) s.size)).1) (by omega);obtain⟨T,p,d⟩:=A0c D (m.added (s.extract (k+1) s.size)).2.1 (m.added (s.extract (k+1) s.size)).2.2.toNat (by omega) (by omega);rw[H] at p;have HA:=hid g;have HD:=hid f;have Z:=hid d;have q:=hid p;clear h a c g f d p H X V;generalize D6 (Lib.decDigits (m.added (s.extract (k+1) s.size)).1) (m.added (s.extract (k+1) s.size)).2.1 (m.added (s.extract (k+1) s.size)).2.2.toNat=R at *;generalize (m.added (s.extract (k+1) s.size)).2.2.toNat=ne at *;generalize (m.added (s.extract (k+1) s.size)).1=n1 at *;generalize (m.added (s.extract (k+1) s.size)).2.1=n2 at *;generalize m.add (s.extract (k+1) s.size)=m2 at *;go_enter func12,ntmps12;go_wp2_with fail
 go_loopw [8] (λv8 wr=>∃i:Nat,i<=k/\v8=.int .i64 i/\wr=w) (λv _=>s.size - (intOf v).toNat)
 case atStart=>exact⟨0,by omega,rfl,by first | rfl | trivial⟩
 case round =>
  obtain⟨i,hi,rfl,rfl⟩:=hrel;by_cases hik:i<k
  .have j1:=dt_ ((i:Int)<s.size)
   have j0:(0:Int)<=i:=by omega
   have hlt:i<s.size:=by omega
   have f1:=r.out i hlt hik;go_wp2_with fail;go_roundw
   case rel=>exact⟨i+1,by omega,by go_num,by first | rfl | trivial⟩
   case measure=>simp[intOf];omega
  .obtain rfl:i=k:=by omega
   go_wp2_with fail;refine HA.out.mono ?_;rintro e w1⟨rfl,F⟩;have Y:=hid F;clear F;go_wp2_with fail;refine(HD.out _).mono ?_;rintro e M⟨rfl,rfl⟩;go_wp2_with fail;refine(Z.out _).mono ?_;rintro e M⟨rfl,rfl⟩;go_wp2_with fail;go_ret;obtain⟨y,t,l,S,Q⟩:=Y.out;exact⟨_,y,t,l,rfl,q.out,S,Q⟩
theorem A5g(B b:Nat)(m:SS)(q p:V_)(f:List V_)(s:B_)(g:NLd s)(k:Nat)(y:k<s.size)(o:s.data.toList[k]?=some 32)(l:∀j:Nat,j<k->s.data.toList[j]?≠some 32)(a:(s.extract 0 k).data.toList=[114,101,109,111,118,101])(n:F9 (s.extract (k+1) s.size).data.toList=none)(w:W_)(h:o9 B b m q p f w)(c:m.small 3000):
 Calls prog 12 #[.pointer (some ⟨b,0,none⟩),.string s] w (F3 (A2t) B b (m) w):=by
 unfold F3;obtain⟨r,X,V,T,S⟩:=g.at;clear g;obtain⟨d,Q,J,G,F,E,D,C,t⟩:=Q8 r y o l;clear o l;have P:((s.extract 0 k).toList==[97,100,100])=false:=by rw[C5 a];rfl
 have O:((s.extract 0 k).toList==[114,101,109,111,118,101])=true:=by rw[C5 a];rfl
 clear a
 have z:Hid (∀W,Calls prog 37 #[.string (s.extract (k+1) s.size)] W (λe w'=>e=.returned (.int .i64 (-1))/\W=w')):=hid λW=>(A0T (s.extract (k+1) s.size) W).mono (by
  rintro e w'⟨rfl,rfl⟩;unfold A2p;rw[n];exact⟨rfl,rfl⟩)
 have H:=hid h;clear h c n;go_enter func12,ntmps12;go_wp2_with fail
 go_loopw [8] (λv8 wr=>∃i:Nat,i<=k/\v8=.int .i64 i/\wr=w) (λv _=>s.size - (intOf v).toNat)
 case atStart=>exact⟨0,by omega,rfl,by first | rfl | trivial⟩
 case round =>
  obtain⟨i,N,rfl,rfl⟩:=hrel;by_cases hik:i<k
  .have L:=dt_ ((i:Int)<s.size)
   have M:(0:Int)<=i:=by omega
   have hlt:i<s.size:=by omega
   have R:=d.out i hlt hik;go_wp2_with fail;go_roundw
   case rel=>exact⟨i+1,by omega,by go_num,by first | rfl | trivial⟩
   case measure=>simp[intOf];omega
  .obtain rfl:i=k:=by omega
   go_wp2_with fail;refine(z.out _).mono ?_;rintro e A⟨rfl,rfl⟩;go_wp2_with fail;go_ret;exact⟨_,q,p,f,rfl,rfl,H.out,DK.refl _ _ _⟩
theorem A7e(B b:Nat)(m:SS)(H G:V_)(z:List V_)(s:B_)(A:NLd s)(k:Nat)(O:k<s.size)(E:s.data.toList[k]?=some 32)(C:∀j:Nat,j<k->s.data.toList[j]?≠some 32)(g:(s.extract 0 k).data.toList=[114,101,109,111,118,101])(n:Nat)(p:F9 (s.extract (k+1) s.size).data.toList=some n)(w:W_)(h:o9 B b m H G z w)(l:m.small 3000):
 Calls prog 12 #[.pointer (some ⟨b,0,none⟩),.string s] w (F3 (D6 A1d 0 (m.removed (n:Int)).toNat) B b (m.remove (n:Int)) w):=by
 unfold F3;obtain⟨L,e1,e2,e3,e4⟩:=A.at;clear A;obtain⟨r,fb,k0,k1,k2,k3,kd,ke,M⟩:=Q8 L O E C;clear E C;have g1:((s.extract 0 k).toList==[97,100,100])=false:=by rw[C5 g];rfl
 have g2:((s.extract 0 k).toList==[114,101,109,111,118,101])=true:=by rw[C5 g];rfl
 clear g
 have Y:Hid (∀W,Calls prog 37 #[.string (s.extract (k+1) s.size)] W (λe w'=>e=.returned (.int .i64 n)/\W=w')):=hid λW=>(A0T (s.extract (k+1) s.size) W).mono (by
  rintro e w'⟨rfl,rfl⟩;unfold A2p;rw[p];exact⟨rfl,rfl⟩)
 have o:0<=m.removed (n:Int)/\m.removed (n:Int)<=6:=by unfold SS.removed;split <;> decide
 have a:m.removed (n:Int)=(((m.removed (n:Int)).toNat:Nat):Int):=by omega
 have d:=B3v B b m H G z (n:Int) w h;unfold DTo at d;rw[a] at d;obtain⟨T,F,c⟩:=A0c ⟨#[111,107]⟩ 0 (m.removed (n:Int)).toNat (by omega) (by omega);have X:=hid d;have V:=hid c;have q:Hid (T.data.toList=D6 A1d 0 (m.removed (n:Int)).toNat):=hid F;have N:=(A5J p).2.2.2;have d0:=df_ ((n:Int)<0);clear h l p o a d c F;generalize D6 A1d 0 (m.removed (n:Int)).toNat=R at *;generalize (m.removed (n:Int)).toNat=ne at *;generalize m.remove (n:Int)=m2 at *;go_enter func12,ntmps12;go_wp2_with fail
 go_loopw [8] (λv8 wr=>∃i:Nat,i<=k/\v8=.int .i64 i/\wr=w) (λv _=>s.size - (intOf v).toNat)
 case atStart=>exact⟨0,by omega,rfl,by first | rfl | trivial⟩
 case round =>
  obtain⟨i,hi,rfl,rfl⟩:=hrel;by_cases hik:i<k
  .have j1:=dt_ ((i:Int)<s.size)
   have j0:(0:Int)<=i:=by omega
   have hlt:i<s.size:=by omega
   have f1:=r.out i hlt hik;go_wp2_with fail;go_roundw
   case rel=>exact⟨i+1,by omega,by go_num,by first | rfl | trivial⟩
   case measure=>simp[intOf];omega
  .obtain rfl:i=k:=by omega
   go_wp2_with fail;refine(Y.out _).mono ?_;rintro e J⟨rfl,rfl⟩;go_wp2_with fail;refine X.out.mono ?_;rintro e J⟨rfl,D⟩;have S:=hid D;clear D;go_wp2_with fail;refine(V.out _).mono ?_;rintro e Z⟨rfl,rfl⟩;go_wp2_with fail;go_ret;obtain⟨y,t,f,Q,P⟩:=S.out;exact⟨_,y,t,f,rfl,q.out,Q,P⟩
end Go.Proofs.YthhcpbfgoofppaaGreatDoor.setW
namespace Wf
theorem A22(l:List (List U_))(x:List U_):D3 (l++[x])=A05 (D3 l) x:=by simp[D3]
end Wf
namespace Go.Proofs.YthhcpbfgoofppaaGreatDoor.setW
open Go.RowKit Wf
theorem C7{s:B_}:s.data.toList.length=s.size:=by simp
theorem B0m(B b:Nat)(m:SS)(AI AP:V_)(X:List V_)(w:W_)(h:o9 B b m AI AP X w)(aa:m.small 3000):
 Calls prog 12 #[.pointer (some ⟨b,0,none⟩),.string ⟨#[108,105,115,116]⟩] w (F3 (T2 (D3 (m.ms.map S7))) B b (m) w):=by
 unfold F3;obtain⟨A,cap,A2,ak,rfl,rfl⟩:=h.form;have ae:=h.ok.len;have z:=aa.last;obtain⟨n,hn⟩:∃n,n=m.ms.length:=⟨_,rfl⟩
 have bp:=hid hn;have aM:=hid h
 have av:Hid (∀W,Below w.heap.size w W->W.cell? ⟨b,0,none⟩=some (.slice A n cap)/\W.cell? ⟨b,1,none⟩=some (.slice A2 n ak)):=hid λW M=>by
  have hh:=(h.below M).blk;rw[←hn] at hh;exact⟨hh.cell 0,hh.cell 1⟩
 have HE:Hid (∀(k:Nat)(q:Mb),m.ms[k]?=some q->∃Q O c g R,A2=some ⟨Q,0,none⟩/\A=some ⟨O,c,none⟩/\(∀W,Below w.heap.size w W->W.cell? ⟨Q,k,none⟩=some (.slice (some ⟨g,0,none⟩) (A0 q.t).length R)/\W.cell? ⟨O,c+k*2,none⟩=some (.int .i64 q.id)) /\
  (∀W,Below w.heap.size w W->Calls prog 32 #[.slice (some ⟨g,0,none⟩) (A0 q.t).length R,.int .i64 0] W (L5 (F0 q.t) W))):=hid λk q d=>by
  have hk:=(List.getElem?_eq_some_iff.1 d).1;obtain⟨_,_,aE,ab,_⟩:=T5 (h.ok.read q (List.mem_of_getElem? d));obtain⟨u,hu⟩:∃u,X[k]?=some u:=⟨_,List.getElem?_eq_getElem (by rw[h.rows.1,List.length_map];exact hk)⟩
  have r:=h.rows.2 k u (A0 q.t) hu (by rw[List.getElem?_map,d];rfl);obtain⟨g,R,rfl,_⟩:=r.form;obtain⟨Q,c',hv,_,_,_,aB,hc⟩:=A2d h.pts (by omega);injection hv with e1 _ _
  obtain⟨A',aW,ax,_,_,ad⟩:=A0v (Rd.of_own h.its);injection ax with f1 _ _
  obtain⟨O,c,e2,aA,aC⟩:=ad (by omega);refine⟨Q,O,c,g,R,e1,f1.trans e2,λW M=>⟨hc W (M.block Q aB) k _ hu,(aC W (λo=>M.cell (p:=⟨O,o,none⟩) aA) k q d).1⟩,λW M=>?_⟩;exact B3t (A0 q.t) (A5d q.t) ab aE g 0 R q.t 0 W (At.whole q.t) (P1.rdD (r.below M))
 have aJ:Hid (∀(k:Nat)(q:Mb),m.ms[k]?=some q->q.id<=750):=hid λk q d=>by
  have:=(h.ok.pos q (List.mem_of_getElem? d)).2;omega
 have aq:Hid (∀k,k<n->∃q,m.ms[k]?=some q):=hid λk hk=>⟨_,List.getElem?_eq_getElem (by omega)⟩
 have ao:Hid (D3 ((m.ms.take n).map S7)=D3 (m.ms.map S7)):=hid (by rw[hn,List.take_length]);obtain⟨E,hE,ai⟩:=A0c ⟨#[]⟩ 0 3 (by omega) (by omega);have aL:=hid ai;have aK:Hid (E.data.toList=A0J 3):=hid hE;have bh:E.size<=9:=by have:=A0h 3;rw[←C7,hE];exact this
 rw[←hn] at ae;have aH:Hid (∀(W:W_),Below w.heap.size w W->∃(AI AP:V_)(X:List V_),o9 B b m AI AP X W/\DK B b w W):=hid λW H=>⟨_,_,X,h.below H,DK.of_below h.hBw H⟩
 clear h aa hn z hE ai aM;go_enter func12,ntmps12;go_wp2_with fail
 go_loopw [5,6] (λv5 v6 wx=>∃(k:Nat)(a:B_),k<=n/\v6=.int .i64 k/\v5=.string a/\a.size<=k*207/\Hid (a.data.toList=D3 ((m.ms.take k).map S7))/\Hid (Below w.heap.size w wx)) (λ_ i _=>n - (intOf i).toNat)
 case atStart=>exact⟨0,⟨#[]⟩,by omega,rfl,rfl,by simp[bsz],hid rfl,hid br_⟩
 case round =>
  obtain⟨k,a,hk,rfl,rfl,bc,j,S⟩:=hrel;rename World=>wo
  obtain⟨r0,r1⟩:=av.out wo S.out;by_cases hkn:k<n
  .have d1:decide (k<n)=true:=decide_eq_true hkn
   have d2:=dt_ ((k:Int)<n);have be:(0:Int)<=k:=by omega
   have bd:(k:Int)<n:=by omega
   obtain⟨q,d⟩:=aq.out k hkn;obtain⟨Q,O,c,g,R,rfl,rfl,C,Y⟩:=HE.out k q d;have bf:=aJ.out k q d;have au:=hid C;have J:=hid Y;unfold L5 at J;have c1:=(C wo S.out).1;obtain⟨D,hD,bi,aj⟩:=A2b (n:=q.id) (by omega);have ar:=hid aj;have am:Hid ((m.ms.take (k+1)).map S7=(m.ms.take k).map S7++[S7 q]):=hid (by rw[A10 d,List.map_append];rfl)
   have ap:Hid (∀T:B_,T.data.toList=(if (F0 q.t).length<=200 then F0 q.t else A0J 3)->(D++⟨#[58]⟩++T).data.toList=S7 q):=hid λT N=>by
    rw[L0,L0,hD,N]
    rfl
   obtain⟨F,hF⟩:∃F,F=(A0 q.t).length:=⟨_,rfl⟩
   rw[←hF] at J c1 au;generalize q.id=id at *;generalize S7 q=IW at *;generalize F0 q.t=TT at *;clear d C Y hD aj hF;go_wp2_with fail;refine(J.out _ S.out).mono ?_;rintro e w2⟨T,rfl,N,af⟩;have l:=hid (S.out.trans (af.mono S.out.size));obtain⟨p0,p1⟩:=av.out w2 l.out;have c2:=(au.out w2 l.out).2;have ah:TT.length=T.size:=by rw[←N];exact C7
   clear af c1 r0 r1;by_cases H:200<T.size
   .have d3:=dt_ ((200:Int)<T.size)
    have HX:=ap.out E (by rw[if_neg (by omega)];exact aK.out);have s:(D++(⟨#[58]⟩:B_)++E).size<=205:=by rw[ByteArray.size_append,ByteArray.size_append];show D.size+1+E.size<=205;omega
    obtain⟨P,G,f⟩:=A7M a (D++⟨#[58]⟩++E) (by omega) (by omega);have L:=hid f
    have y:P.size<=(k+1)*207:=by
     have h3:=Wf.put_len a.data.toList (D++(⟨#[58]⟩:B_)++E).data.toList;rw[←G,C7,C7,C7] at h3;omega
    have HP:Hid (P.data.toList=D3 ((m.ms.take (k+1)).map S7)):=hid (by rw[am.out,A22,←j.out,←HX,G]);clear N ah H HX s G f;go_wp2_with fail;refine(aL.out _).mono ?_;rintro e V⟨rfl,rfl⟩;go_wp2_with fail;refine(ar.out _).mono ?_;rintro e V⟨rfl,rfl⟩;go_wp2_with fail;refine(L.out _).mono ?_;rintro e V⟨rfl,rfl⟩;go_wp2_with fail;go_roundw
    case rel=>exact⟨k+1,P,by omega,by go_num,rfl,y,HP,l⟩
    case measure=>simp[intOf];omega
   .have d3:=df_ ((200:Int)<T.size)
    have HX:=ap.out T (by rw[if_pos (by omega)];exact N);have s:(D++(⟨#[58]⟩:B_)++T).size<=206:=by rw[ByteArray.size_append,ByteArray.size_append];show D.size+1+T.size<=206;omega
    obtain⟨P,G,f⟩:=A7M a (D++⟨#[58]⟩++T) (by omega) (by omega);have L:=hid f
    have y:P.size<=(k+1)*207:=by
     have h3:=Wf.put_len a.data.toList (D++(⟨#[58]⟩:B_)++T).data.toList;rw[←G,C7,C7,C7] at h3;omega
    have HP:Hid (P.data.toList=D3 ((m.ms.take (k+1)).map S7)):=hid (by rw[am.out,A22,←j.out,←HX,G]);have bb:T.size<=200:=by omega
    clear N ah H HX s G f;go_wp2_with fail;refine(ar.out _).mono ?_;rintro e V⟨rfl,rfl⟩;go_wp2_with fail;refine(L.out _).mono ?_;rintro e V⟨rfl,rfl⟩;go_wp2_with fail;go_roundw
    case rel=>exact⟨k+1,P,by omega,by go_num,rfl,y,HP,l⟩
    case measure=>simp[intOf];omega
  .obtain rfl:k=n:=by omega
   have d1:=df_ (k<k);have d2:=df_ ((k:Int)<k);obtain⟨Z,hZ,ag⟩:=A8Q a;have aG:=hid ag;have HZ:Hid (Z.data.toList=T2 (D3 (m.ms.map S7))):=hid (by rw[hZ,j.out,ao.out]);clear hZ ag;go_wp2_with fail;refine(aG.out _).mono ?_;rintro e V⟨rfl,rfl⟩;go_wp2_with fail;go_ret;obtain⟨aP,aN,aw,h1,H⟩:=aH.out _ S.out;exact⟨_,aP,aN,aw,rfl,HZ.out,h1,H⟩
theorem A5f(B b:Nat)(m:SS)(AI AP:V_)(vs:List V_)(s:B_)(nl:NLd s)(k:Nat)(hk:k<s.size)(hb:s.data.toList[k]?=some 32)(hn:∀j:Nat,j<k->s.data.toList[j]?≠some 32)(Q:(s.extract 0 k).data.toList=[115,99,97,110])(a:List (Nat×Nat×Nat))(aR:a.length<=4812)(D:∀q∈a,q.1<=750/\q.2.1<=400/\q.2.2<=400)(C:Nat)(ah:C<=6)(m2:SS)(w:W_)(h:o9 B b m AI AP vs w)(af:m.small 3000)
 (hsc:Calls prog 39 #[.pointer (some ⟨b,0,none⟩),.string (s.extract (k+1) s.size)] w (λe w'=>∃(A:Option Addr)(cap:Nat),e=.returned (.tuple #[.slice A a.length cap,.int .i64 C])/\Rd w' 3 (.slice A a.length cap) (a.flatMap Q0)/\∃(AI AP:V_)(vs:List V_),o9 B b m2 AI AP vs w'/\DK B b w w')):
 Calls prog 12 #[.pointer (some ⟨b,0,none⟩),.string s] w (F3 (D6 (T2 (D3 (a.map A08))) 0 C) B b (m2) w):=by
 unfold F3;obtain⟨hs,e1,e2,e3,e4⟩:=nl.at;clear nl;obtain⟨ar,fb,k0,k1,k2,k3,kd,ke,aU⟩:=Q8 hs hk hb hn;clear hb hn;have g1:((s.extract 0 k).toList==[97,100,100])=false:=by rw[C5 Q];rfl
 have g2:((s.extract 0 k).toList==[114,101,109,111,118,101])=false:=by rw[C5 Q];rfl
 have g3:((s.extract 0 k).toList==[115,99,97,110])=true:=by rw[C5 Q];rfl
 clear Q;have ap:=hid hsc;have am:=hid D;clear h af hsc D;go_enter func12,ntmps12;go_wp2_with fail
 go_loopw [8] (λv8 wr=>∃i:Nat,i<=k/\v8=.int .i64 i/\wr=w) (λv _=>s.size - (intOf v).toNat)
 case atStart=>exact⟨0,by omega,rfl,by first | rfl | trivial⟩
 case round =>
  obtain⟨i,hi,rfl,rfl⟩:=hrel;by_cases hik:i<k
  .have j1:=dt_ ((i:Int)<s.size)
   have j0:(0:Int)<=i:=by omega
   have hlt:i<s.size:=by omega
   have f1:=ar.out i hlt hik;go_wp2_with fail;go_roundw
   case rel=>exact⟨i+1,by omega,by go_num,by first | rfl | trivial⟩
   case measure=>simp[intOf];omega
  .obtain rfl:i=k:=by omega
   go_wp2_with fail;refine ap.out.mono ?_;rintro e w1⟨A,cap,rfl,hr,hd⟩;obtain⟨A',aP,hv,aG,aF,g⟩:=A8t hr;injection hv with e1 _ e2
   subst e1;subst e2;have au:=hid g;have HX:=hid hd;clear hr hd g;go_wp2_with fail
   go_loopw [17,18] (λv17 v18 wr=>∃(i:Nat)(c:B_),i<=a.length/\v18=.int .i64 i/\v17=.string c/\c.size<=i*15/\Hid (c.data.toList=D3 ((a.take i).map A08))/\Hid (Below w1.heap.size w1 wr)) (λ_ i _=>a.length - (intOf i).toNat)
   case atStart=>exact⟨0,⟨#[]⟩,by omega,rfl,rfl,by simp[bsz],hid rfl,hid br_⟩
   case round =>
    obtain⟨i,c,hi,rfl,rfl,aV,l,R⟩:=hrel;rename World=>wo
    by_cases hin:i<a.length
    .have d1:=dt_ ((i:Int)<a.length)
     have d3:=dt_ (i<a.length);have aY:(0:Int)<=i:=by omega
     have aX:(i:Int)<a.length:=by omega
     have E:a[i]?=some (a[i]'hin):=List.getElem?_eq_getElem hin;generalize a[i]'hin=q at E;obtain⟨x,y,z⟩:=q;obtain⟨hx,hy,hz⟩:=am.out _ (List.mem_of_getElem? E);dsimp only at hx hy hz;obtain⟨bs,os,rfl,ai,F⟩:=au.out (by omega);obtain⟨m0,m1,m3⟩:=F wo (λo=>R.out.cell (p:=⟨bs,o,none⟩) ai) i x y z E;obtain⟨X,hX,bb,L⟩:=A2b (n:=x) (by omega);obtain⟨Y,hY,ba,J⟩:=A2b (n:=y) (by omega);obtain⟨Z,H,a_,d⟩:=A2b (n:=z) (by omega);have t:(⟨#[58]⟩:B_).size=1:=rfl;have O:(⟨#[45]⟩:B_).size=1:=rfl;have ad:(X++⟨#[58]⟩++Y++⟨#[45]⟩++Z).size<=17:=by rw[ByteArray.size_append,ByteArray.size_append,ByteArray.size_append,ByteArray.size_append,t,O];omega
     have f:(X++⟨#[58]⟩++Y++⟨#[45]⟩++Z).data.toList=A08 (x,y,z):=by
      rw[L0,L0,L0,L0,hX,hY,H]
      rfl
     obtain⟨P,hP,N⟩:=A7M c (X++⟨#[58]⟩++Y++⟨#[45]⟩++Z) (by omega) (by omega)
     have ag:P.size<=(i+1)*15:=by
      have h3:=Wf.put_len c.data.toList (A08 (x,y,z));have h4:=A5a (q:=(x,y,z)) (by exact hx) (by exact hy) (by exact hz);rw[←f,←hP,C7,C7] at h3;rw[f] at h3;omega
     have HP:Hid (P.data.toList=D3 ((a.take (i+1)).map A08)):=hid (by rw[A10 E,List.map_append,List.map_cons,List.map_nil,A22,←l.out,hP,f]);have al:=hid L;have ak:=hid J;have r:=hid d;have aq:=hid N;have bi:=λW=>run_string_add_sum (P:=prog) W X ⟨#[58]⟩ (by rw[t];omega)
     have bh:=λW=>run_string_add_sum (P:=prog) W (X++⟨#[58]⟩) Y (by rw[ByteArray.size_append,t];omega)
     have bg:=λW=>run_string_add_sum (P:=prog) W (X++⟨#[58]⟩++Y) ⟨#[45]⟩ (by rw[ByteArray.size_append,ByteArray.size_append,t,O];omega)
     have bf:=λW=>run_string_add_sum (P:=prog) W (X++⟨#[58]⟩++Y++⟨#[45]⟩) Z (by rw[ByteArray.size_append,ByteArray.size_append,ByteArray.size_append,t,O];omega)
     clear t O E F hX hY H L J d hP N ad f hx hy hz;go_wp2_with fail
     go_quiet (first
      | (go_at_call_of 31 (Value.int .i64 x);refine(al.out _).mono ?_;rintro e S⟨rfl,rfl⟩;exact⟨rfl,_,rfl⟩)
      | (go_at_call_of 31 (Value.int .i64 y);refine(ak.out _).mono ?_;rintro e S⟨rfl,rfl⟩;exact⟨rfl,_,rfl⟩)
      | (go_at_call_of 31 (Value.int .i64 z);refine(r.out _).mono ?_;rintro e S⟨rfl,rfl⟩;exact⟨rfl,_,rfl⟩)
      | (go_at_call 34;refine(aq.out _).mono ?_;rintro e S⟨rfl,rfl⟩;exact⟨rfl,_,rfl⟩))
     go_wp2_with fail;go_roundw
     case rel=>exact⟨i+1,P,by omega,by go_num,rfl,ag,HP,hid (M0 R.out _)⟩
     case measure=>simp[intOf];omega
    .obtain rfl:i=a.length:=by omega
     have d1:=df_ ((a.length:Int)<(a.length:Int));obtain⟨Z,H,d⟩:=A8Q c
     have G:Z.data.toList=T2 (D3 (a.map A08)):=by
      have:=l.out;rw[List.take_length] at this;rw[H,this]
     obtain⟨V,hV,M⟩:=A0c Z 0 C ah (by omega);have r:=hid d;have ao:=hid M;have HV:Hid (V.data.toList=D6 (T2 (D3 (a.map A08))) 0 C):=hid (by rw[hV,G]);clear H d G hV M;go_wp2_with fail;refine(r.out _).mono ?_;rintro e w3⟨rfl,rfl⟩;go_wp2_with fail;refine(ao.out _).mono ?_;rintro e w3⟨rfl,rfl⟩;go_wp2_with fail;go_ret;obtain⟨ax,av,T,h1,h2⟩:=HX.out;exact⟨_,ax,av,T,rfl,HV.out,h1.below R.out,h2.trans (DK.of_below h1.hBw R.out)⟩
theorem A87(B b:Nat)(m:SS)(D C:V_)(p:List V_)(s:B_)(q:NLd s)(k:Nat)(G:k<s.size)(A:s.data.toList[k]?=some 32)(y:∀j:Nat,j<k->s.data.toList[j]?≠some 32)(c:(s.extract 0 k).data.toList=[112,117,116])(rb:B_)(a:rb=s.extract (k+1) s.size)(z:∀j:Nat,rb.data.toList[j]?≠some 32)(w:W_)(h:o9 B b m D C p w)(g:m.small 3000):
 Calls prog 12 #[.pointer (some ⟨b,0,none⟩),.string s] w (F3 (A2t) B b (m) w):=by
 unfold F3;obtain⟨F,e1,e2,Z,Y⟩:=q.at;clear q;obtain⟨o,X,Q,P,O,N,M,L,d⟩:=Q8 F G A y;clear A y;have V:((s.extract 0 k).toList==[97,100,100])=false:=by rw[C5 c];rfl
 have T:((s.extract 0 k).toList==[114,101,109,111,118,101])=false:=by rw[C5 c];rfl
 have S:((s.extract 0 k).toList==[115,99,97,110])=false:=by rw[C5 c];rfl
 have R:((s.extract 0 k).toList==[112,117,116])=true:=by rw[C5 c];rfl
 clear c;have n:Hid (∀(i:Nat)(f:i<rb.size),(((rb[i]'f).toNat:Int) !=32)=true):=hid λi f=>R4 f (z i)
 have t:rb.size<=3000:=by rw[a];exact d
 have l:=hid a;have H:=hid h;clear h g z a d;go_enter func12,ntmps12;go_wp2_with fail
 go_loopw [8] (λv8 wr=>∃i:Nat,i<=k/\v8=.int .i64 i/\wr=w) (λv _=>s.size - (intOf v).toNat)
 case atStart=>exact⟨0,by omega,rfl,by first | rfl | trivial⟩
 case round =>
  obtain⟨i,f,rfl,rfl⟩:=hrel;rename World=>wr0
  by_cases hik:i<k
  .have r:=dt_ ((i:Int)<s.size)
   have E:(0:Int)<=i:=by omega
   have hlt:i<s.size:=by omega
   have J:=o.out i hlt hik;go_wp2_with fail;go_roundw
   case rel=>exact⟨i+1,by omega,by go_num,by first | rfl | trivial⟩
   case measure=>simp[intOf];omega
  .obtain rfl:i=k:=by omega
   go_wp2_with fail;rw[←l.out]
   go_loopw [19] (λv19 wr=>∃i:Nat,i<=rb.size/\v19=.int .i64 i/\wr=wr0) (λv _=>rb.size - (intOf v).toNat)
   case atStart=>exact⟨0,by omega,rfl,by first | rfl | trivial⟩
   case round =>
    obtain⟨i,f,rfl,rfl⟩:=hrel;by_cases hil:i<rb.size
    .have r:=dt_ ((i:Int)<rb.size)
     have E:(0:Int)<=i:=by omega
     have J:=n.out i hil;go_wp2_with fail;go_roundw
     case rel=>exact⟨i+1,by omega,by go_num,by first | rfl | trivial⟩
     case measure=>simp[intOf];omega
    .obtain rfl:i=rb.size:=by omega
     have r:=df_ ((rb.size:Int)<(rb.size:Int));go_wp2_with fail;go_ret;exact⟨_,D,C,p,rfl,rfl,H.out,DK.refl _ _ _⟩
theorem A7f(B b:Nat)(m:SS)(D C:V_)(r:List V_)(s:B_)(t:NLd s)(k:Nat)(J:k<s.size)(A:s.data.toList[k]?=some 32)(y:∀j:Nat,j<k->s.data.toList[j]?≠some 32)(c:(s.extract 0 k).data.toList=[112,117,116])(rb:B_)(a:rb=s.extract (k+1) s.size)(j:Nat)(L:j<rb.size)(l:rb.data.toList[j]?=some 32)(g:∀i:Nat,i<j->rb.data.toList[i]?≠some 32)(z:F9 (rb.extract 0 j).data.toList=none)(w:W_)(h:o9 B b m D C r w)(n:m.small 3000):
 Calls prog 12 #[.pointer (some ⟨b,0,none⟩),.string s] w (F3 (A2t) B b (m) w):=by
 unfold F3;obtain⟨G,e1,e2,e3,e4⟩:=t.at;clear t;obtain⟨q,fb,k0,k1,k2,Z,Y,X,f⟩:=Q8 G J A y;clear A y;have g1:((s.extract 0 k).toList==[97,100,100])=false:=by rw[C5 c];rfl
 have g2:((s.extract 0 k).toList==[114,101,109,111,118,101])=false:=by rw[C5 c];rfl
 have g3:((s.extract 0 k).toList==[115,99,97,110])=false:=by rw[C5 c];rfl
 have g4:((s.extract 0 k).toList==[112,117,116])=true:=by rw[C5 c];rfl
 clear c;have d:rb.size<=3000:=by rw[a];exact f
 obtain⟨p,fc,V,T,S,R,Q,le,_⟩:=Q8 d L l g;have o:=hid a;clear l g a f
 have O:Hid (∀W,Calls prog 37 #[.string (rb.extract 0 j)] W (λe w'=>e=.returned (.int .i64 (-1))/\W=w')):=hid λW=>(A0T (rb.extract 0 j) W).mono (by
  rintro e w'⟨rfl,rfl⟩;unfold A2p;rw[z];exact⟨rfl,rfl⟩)
 have H:=hid h;clear h n z;go_enter func12,ntmps12;go_wp2_with fail
 go_loopw [8] (λv8 wr=>∃i:Nat,i<=k/\v8=.int .i64 i/\wr=w) (λv _=>s.size - (intOf v).toNat)
 case atStart=>exact⟨0,by omega,rfl,by first | rfl | trivial⟩
 case round =>
  obtain⟨i,M,rfl,rfl⟩:=hrel;rename World=>wr0
  by_cases hik:i<k
  .have E:=dt_ ((i:Int)<s.size)
   have F:(0:Int)<=i:=by omega
   have hlt:i<s.size:=by omega
   have N:=q.out i hlt hik;go_wp2_with fail;go_roundw
   case rel=>exact⟨i+1,by omega,by go_num,by first | rfl | trivial⟩
   case measure=>simp[intOf];omega
  .obtain rfl:i=k:=by omega
   go_wp2_with fail;rw[←o.out]
   go_loopw [19] (λv19 wr=>∃i:Nat,i<=j/\v19=.int .i64 i/\wr=wr0) (λv _=>rb.size - (intOf v).toNat)
   case atStart=>exact⟨0,by omega,rfl,by first | rfl | trivial⟩
   case round =>
    obtain⟨i,M,rfl,rfl⟩:=hrel;by_cases hil:i<j
    .have hlt:i<rb.size:=by omega
     have E:=dt_ ((i:Int)<rb.size);have F:(0:Int)<=i:=by omega
     have N:=p.out i hlt hil;go_wp2_with fail;go_roundw
     case rel=>exact⟨i+1,by omega,by go_num,by first | rfl | trivial⟩
     case measure=>simp[intOf];omega
    .obtain rfl:i=j:=by omega
     go_wp2_with fail;refine(O.out _).mono ?_;rintro e P⟨rfl,rfl⟩;go_wp2_with fail;go_ret;exact⟨_,D,C,r,rfl,rfl,H.out,DK.refl _ _ _⟩
theorem A6D(B b:Nat)(m:SS)(G F:V_)(p:List V_)(s:B_)(L:NLd s)(k:Nat)(V:k<s.size)(O:s.data.toList[k]?=some 32)(N:∀j:Nat,j<k->s.data.toList[j]?≠some 32)(c:(s.extract 0 k).data.toList=[112,117,116])(rb:B_)(a:rb=s.extract (k+1) s.size)(j:Nat)(X:j<rb.size)(l:rb.data.toList[j]?=some 32)(g:∀i:Nat,i<j->rb.data.toList[i]?≠some 32)(n:Nat)(r:F9 (rb.extract 0 j).data.toList=some n)(M:m.place (n:Int)=none)(w:W_)(h:o9 B b m G F p w)(q:m.small 3000):
 Calls prog 12 #[.pointer (some ⟨b,0,none⟩),.string s] w (F3 (A0J 4) B b (m) w):=by
 unfold F3;obtain⟨S,e1,e2,e3,e4⟩:=L.at;clear L;obtain⟨A,fb,k0,k1,k2,k3,kd,ke,f⟩:=Q8 S V O N;clear O N;have g1:((s.extract 0 k).toList==[97,100,100])=false:=by rw[C5 c];rfl
 have g2:((s.extract 0 k).toList==[114,101,109,111,118,101])=false:=by rw[C5 c];rfl
 have g3:((s.extract 0 k).toList==[115,99,97,110])=false:=by rw[C5 c];rfl
 have g4:((s.extract 0 k).toList==[112,117,116])=true:=by rw[C5 c];rfl
 clear c;have d:rb.size<=3000:=by rw[a];exact f
 obtain⟨z,fc,l0,l1,l2,l3,ld,le,_⟩:=Q8 d X l g;have t:=hid a;clear l g a f
 have HN:Hid (∀W,Calls prog 37 #[.string (rb.extract 0 j)] W (λe w'=>e=.returned (.int .i64 n)/\W=w')):=hid λW=>(A0T (rb.extract 0 j) W).mono (by
  rintro e w'⟨rfl,rfl⟩;unfold A2p;rw[r];exact⟨rfl,rfl⟩)
 have T:=(A5J r).2.2.2;have d0:=df_ ((n:Int)<0)
 have y:Hid (Calls prog 40 #[.pointer (some ⟨b,0,none⟩),.int .i64 n] w (λe w'=>e=.returned (.int .i64 (-1))/\w=w')):=hid (by
  have:=A3t B b m G F p (n:Int) w h;rw[M] at this;exact this)
 obtain⟨E,P,o⟩:=A0c ⟨#[]⟩ 0 4 (by omega) (by omega);have D:=hid o;have C:Hid (E.data.toList=A0J 4):=hid P;have H:=hid h;clear h q r M P o;go_enter func12,ntmps12;go_wp2_with fail
 go_loopw [8] (λv8 wr=>∃i:Nat,i<=k/\v8=.int .i64 i/\wr=w) (λv _=>s.size - (intOf v).toNat)
 case atStart=>exact⟨0,by omega,rfl,by first | rfl | trivial⟩
 case round =>
  obtain⟨i,Y,rfl,rfl⟩:=hrel;rename World=>wr0
  by_cases hik:i<k
  .have Q:=dt_ ((i:Int)<s.size)
   have R:(0:Int)<=i:=by omega
   have hlt:i<s.size:=by omega
   have Z:=A.out i hlt hik;go_wp2_with fail;go_roundw
   case rel=>exact⟨i+1,by omega,by go_num,by first | rfl | trivial⟩
   case measure=>simp[intOf];omega
  .obtain rfl:i=k:=by omega
   go_wp2_with fail;rw[←t.out]
   go_loopw [19] (λv19 wr=>∃i:Nat,i<=j/\v19=.int .i64 i/\wr=wr0) (λv _=>rb.size - (intOf v).toNat)
   case atStart=>exact⟨0,by omega,rfl,by first | rfl | trivial⟩
   case round =>
    obtain⟨i,Y,rfl,rfl⟩:=hrel;by_cases hil:i<j
    .have hlt:i<rb.size:=by omega
     have Q:=dt_ ((i:Int)<rb.size);have R:(0:Int)<=i:=by omega
     have Z:=z.out i hlt hil;go_wp2_with fail;go_roundw
     case rel=>exact⟨i+1,by omega,by go_num,by first | rfl | trivial⟩
     case measure=>simp[intOf];omega
    .obtain rfl:i=j:=by omega
     go_wp2_with fail;refine(HN.out _).mono ?_;rintro e J⟨rfl,rfl⟩;go_wp2_with fail;refine y.out.mono ?_;rintro e J⟨rfl,rfl⟩;go_wp2_with fail;refine(D.out _).mono ?_;rintro e J⟨rfl,rfl⟩;go_wp2_with fail;go_ret;exact⟨_,G,F,p,rfl,C.out,H.out,DK.refl _ _ _⟩
theorem A6E(B b:Nat)(m:SS)(O N:V_)(r:List V_)(s:B_)(Q:NLd s)(k:Nat)(hk:k<s.size)(S:s.data.toList[k]?=some 32)(R:∀j:Nat,j<k->s.data.toList[j]?≠some 32)(c:(s.extract 0 k).data.toList=[112,117,116])(rb:B_)(a:rb=s.extract (k+1) s.size)(j:Nat)(hj:j<rb.size)(o:rb.data.toList[j]?=some 32)(l:∀i:Nat,i<j->rb.data.toList[i]?≠some 32)(n:Nat)(A:F9 (rb.extract 0 j).data.toList=some n)(p:Nat)(x:Mb)(z:m.place (n:Int)=some p)(Y:m.ms[p]?=some x)(t:B_)(d:t=rb.extract (j+1) rb.size)(h4:400<t.size)(w:W_)(h:o9 B b m O N r w)(y:m.small 3000):
 Calls prog 12 #[.pointer (some ⟨b,0,none⟩),.string s] w (F3 (A0J 3) B b (m) w):=by
 unfold F3;obtain⟨Z,e1,e2,e3,e4⟩:=Q.at;clear Q;obtain⟨J,fb,k0,k1,k2,k3,kd,ke,g⟩:=Q8 Z hk S R;clear S R;have g1:((s.extract 0 k).toList==[97,100,100])=false:=by rw[C5 c];rfl
 have g2:((s.extract 0 k).toList==[114,101,109,111,118,101])=false:=by rw[C5 c];rfl
 have g3:((s.extract 0 k).toList==[115,99,97,110])=false:=by rw[C5 c];rfl
 have g4:((s.extract 0 k).toList==[112,117,116])=true:=by rw[C5 c];rfl
 clear c;have f:rb.size<=3000:=by rw[a];exact g
 obtain⟨G,fc,l0,l1,l2,l3,ld,le,_⟩:=Q8 f hj o l;have D:=hid a;clear o l a g
 have HN:Hid (∀W,Calls prog 37 #[.string (rb.extract 0 j)] W (λe w'=>e=.returned (.int .i64 n)/\W=w')):=hid λW=>(A0T (rb.extract 0 j) W).mono (by
  rintro e w'⟨rfl,rfl⟩;unfold A2p;rw[A];exact⟨rfl,rfl⟩)
 have ab:=(A5J A).2.2.2;have d0:=df_ ((n:Int)<0)
 have F:Hid (Calls prog 40 #[.pointer (some ⟨b,0,none⟩),.int .i64 n] w (λe w'=>e=.returned (.int .i64 p)/\w=w')):=hid (by
  have:=A3t B b m O N r (n:Int) w h;rw[z] at this;exact this)
 have aa:=A0e z;have ag:=h.ok.len;have p0:=df_ ((p:Int)<0);have p1:(0:Int)<=p:=by omega
 have x4:=dt_ ((400:Int)<t.size);obtain⟨E,T,q⟩:=A0c ⟨#[]⟩ 0 3 (by omega) (by omega);have M:=hid q;have L:Hid (E.data.toList=A0J 3):=hid T;have C:=hid d;have H:=hid h;clear h y A z Y T q d h4;go_enter func12,ntmps12;go_wp2_with fail
 go_loopw [8] (λv8 wr=>∃i:Nat,i<=k/\v8=.int .i64 i/\wr=w) (λv _=>s.size - (intOf v).toNat)
 case atStart=>exact⟨0,by omega,rfl,by first | rfl | trivial⟩
 case round =>
  obtain⟨i,hi,rfl,rfl⟩:=hrel;rename World=>wr0
  by_cases hik:i<k
  .have V:=dt_ ((i:Int)<s.size)
   have X:(0:Int)<=i:=by omega
   have hlt:i<s.size:=by omega
   have f1:=J.out i hlt hik;go_wp2_with fail;go_roundw
   case rel=>exact⟨i+1,by omega,by go_num,by first | rfl | trivial⟩
   case measure=>simp[intOf];omega
  .obtain rfl:i=k:=by omega
   go_wp2_with fail;rw[←D.out]
   go_loopw [19] (λv19 wr=>∃i:Nat,i<=j/\v19=.int .i64 i/\wr=wr0) (λv _=>rb.size - (intOf v).toNat)
   case atStart=>exact⟨0,by omega,rfl,by first | rfl | trivial⟩
   case round =>
    obtain⟨i,hi,rfl,rfl⟩:=hrel;by_cases hil:i<j
    .have hlt:i<rb.size:=by omega
     have V:=dt_ ((i:Int)<rb.size);have X:(0:Int)<=i:=by omega
     have f1:=G.out i hlt hil;go_wp2_with fail;go_roundw
     case rel=>exact⟨i+1,by omega,by go_num,by first | rfl | trivial⟩
     case measure=>simp[intOf];omega
    .obtain rfl:i=j:=by omega
     go_wp2_with fail;refine(HN.out _).mono ?_;rintro e P⟨rfl,rfl⟩;go_wp2_with fail;refine F.out.mono ?_;rintro e P⟨rfl,rfl⟩
     go_upto_region 57 with fail
     rw[←C.out];go_wp2_with fail;refine(M.out _).mono ?_;rintro e P⟨rfl,rfl⟩;go_wp2_with fail;go_ret;exact⟨_,O,N,r,rfl,L.out,H.out,DK.refl _ _ _⟩
theorem B3R(B b:Nat)(m:SS)(AI AP:V_)(N:List V_)(s:B_)(nl:NLd s)(k:Nat)(hk:k<s.size)(hb:s.data.toList[k]?=some 32)(hn:∀j:Nat,j<k->s.data.toList[j]?≠some 32)(o:(s.extract 0 k).data.toList=[112,117,116])(rb:B_)(l:rb=s.extract (k+1) s.size)(j:Nat)(hj:j<rb.size)(D:rb.data.toList[j]?=some 32)(C:∀i:Nat,i<j->rb.data.toList[i]?≠some 32)(n:Nat)(Y:F9 (rb.extract 0 j).data.toList=some n)(p:Nat)(x:Mb)(V:m.place (n:Int)=some p)(Q:m.ms[p]?=some x)(c:B_)(q:c=rb.extract (j+1) rb.size)(h4:¬ 400<c.size)(w:W_)(h:o9 B b m AI AP N w)(T:m.small 3000):
 Calls prog 12 #[.pointer (some ⟨b,0,none⟩),.string s] w (F3 (A2o x c.data.toList) B b (m) w):=by
 unfold F3;obtain⟨hs,e1,e2,e3,e4⟩:=nl.at;clear nl;obtain⟨ah,fb,k0,k1,k2,k3,kd,ke,y⟩:=Q8 hs hk hb hn;clear hb hn;have g1:((s.extract 0 k).toList==[97,100,100])=false:=by rw[C5 o];rfl
 have g2:((s.extract 0 k).toList==[114,101,109,111,118,101])=false:=by rw[C5 o];rfl
 have g3:((s.extract 0 k).toList==[115,99,97,110])=false:=by rw[C5 o];rfl
 have g4:((s.extract 0 k).toList==[112,117,116])=true:=by rw[C5 o];rfl
 clear o;have r:rb.size<=3000:=by rw[l];exact y
 obtain⟨ag,fc,l0,l1,l2,l3,ld,le,_⟩:=Q8 r hj D C;have ae:=hid l;clear D C l y
 have HN:Hid (∀W,Calls prog 37 #[.string (rb.extract 0 j)] W (λe w'=>e=.returned (.int .i64 n)/\W=w')):=hid λW=>(A0T (rb.extract 0 j) W).mono (by
  rintro e w'⟨rfl,rfl⟩;unfold A2p;rw[Y];exact⟨rfl,rfl⟩)
 have aC:=(A5J Y).2.2.2;have d0:=df_ ((n:Int)<0)
 have af:Hid (Calls prog 40 #[.pointer (some ⟨b,0,none⟩),.int .i64 n] w (λe w'=>e=.returned (.int .i64 p)/\w=w')):=hid (by
  have:=A3t B b m AI AP N (n:Int) w h;rw[V] at this;exact this)
 have z:=A0e V;have ab:=h.ok.len;have p0:=df_ ((p:Int)<0);have p1:(0:Int)<=p:=by omega
 have x4:=df_ ((400:Int)<c.size);obtain⟨_,_,M,f,_⟩:=T5 (h.ok.read x (List.mem_of_getElem? Q));obtain⟨u,S⟩:∃u,N[p]?=some u:=⟨_,List.getElem?_eq_getElem (by rw[h.rows.1,List.length_map];exact z)⟩
 have a:=h.rows.2 p u (A0 x.t) S (by rw[List.getElem?_map,Q];rfl);obtain⟨g,cp,rfl,_⟩:=a.form;obtain⟨ga,c',hv,aI,aH,_,aG,hc⟩:=A2d h.pts (by omega);subst hv;obtain⟨O,A⟩:∃O,O=m.ms.length:=⟨_,rfl⟩
 have p2:(p:Int)<O:=by omega
 have b1:w.cell? ⟨b,1,none⟩=some (.slice (some ⟨ga,0,none⟩) O c'):=by rw[A];exact h.blk.cell 1
 have r1:=hc w rfl p _ S;obtain⟨F,hF⟩:∃F,F=(A0 x.t).length:=⟨_,rfl⟩
 have d:=B6G (A0 x.t) x.t rfl f M g 0 cp c ⟨#[95]⟩ (by omega) (by decide) w (P1.rdD a);unfold B14 at d;obtain⟨X,P⟩:∃X,X=q9 c ⟨#[95]⟩ (Y0 c.data.toList x.t 0):=⟨_,rfl⟩
 have Z:0<=X.2/\X.2<=6:=by
  rw[P];unfold q9
  split
  .exact⟨by decide,by decide⟩
  .split
   .exact⟨by decide,by decide⟩
   .exact⟨Int.le_refl _,by show(0:Int)<=6;decide⟩
 have J:X.2=((X.2.toNat:Nat):Int):=by omega
 rw[←P,J,←hF] at d;rw[←hF] at r1;obtain⟨E,hE,L⟩:=A0c ⟨X.1.toArray⟩ 0 X.2.toNat (by omega) (by omega);have ad:=hid d;have aj:=hid L
 have ai:Hid (E.data.toList=A2o x c.data.toList):=hid (by
  rw[hE,P];unfold A2o;rw[if_neg (by rw[C7];exact h4)])
 have ac:=hid q;have H:=hid h;generalize A2o x c.data.toList=R at *;generalize X.2.toNat=ne at *;generalize X.1=X1 at *;clear h T Y V Q hE L q h4 a S hc d Z J P hF A f M z ab;go_enter func12,ntmps12;go_wp2_with fail
 go_loopw [8] (λv8 wr=>∃i:Nat,i<=k/\v8=.int .i64 i/\wr=w) (λv _=>s.size - (intOf v).toNat)
 case atStart=>exact⟨0,by omega,rfl,by first | rfl | trivial⟩
 case round =>
  obtain⟨i,hi,rfl,rfl⟩:=hrel;rename World=>wr0
  by_cases hik:i<k
  .have j1:=dt_ ((i:Int)<s.size)
   have j0:(0:Int)<=i:=by omega
   have hlt:i<s.size:=by omega
   have f1:=ah.out i hlt hik;go_wp2_with fail;go_roundw
   case rel=>exact⟨i+1,by omega,by go_num,by first | rfl | trivial⟩
   case measure=>simp[intOf];omega
  .obtain rfl:i=k:=by omega
   go_wp2_with fail;rw[←ae.out]
   go_loopw [19] (λv19 wr=>∃i:Nat,i<=j/\v19=.int .i64 i/\wr=wr0) (λv _=>rb.size - (intOf v).toNat)
   case atStart=>exact⟨0,by omega,rfl,by first | rfl | trivial⟩
   case round =>
    obtain⟨i,hi,rfl,rfl⟩:=hrel;by_cases hil:i<j
    .have hlt:i<rb.size:=by omega
     have j1:=dt_ ((i:Int)<rb.size);have j0:(0:Int)<=i:=by omega
     have f1:=ag.out i hlt hil;go_wp2_with fail;go_roundw
     case rel=>exact⟨i+1,by omega,by go_num,by first | rfl | trivial⟩
     case measure=>simp[intOf];omega
    .obtain rfl:i=j:=by omega
     go_wp2_with fail;refine(HN.out _).mono ?_;rintro e w1⟨rfl,rfl⟩;go_wp2_with fail;refine af.out.mono ?_;rintro e w1⟨rfl,rfl⟩
     go_upto_region 57 with fail
     rw[←ac.out];go_wp2_with fail;refine ad.out.mono ?_;rintro e w1⟨rfl,G⟩;have HB:=hid G;clear G;go_wp2_with fail;refine(aj.out _).mono ?_;rintro e w2⟨rfl,rfl⟩;go_wp2_with fail;go_ret;exact⟨_,_,_,N,rfl,ai.out,H.out.below HB.out,DK.of_below H.out.hBw HB.out⟩
theorem A1p{s:B_}{l:List U_}(h:s.data.toList=l):s=⟨l.toArray⟩:=ByteArray.ext (Array.toList_inj.1 h)
theorem B7Z(B b:Nat)(m:SS)(g f:V_)(d:List V_)(s:B_)(i:s.size<=3000)(w:W_)(h:o9 B b m g f d w)(a:m.small 3000):
 Calls prog 12 #[.pointer (some ⟨b,0,none⟩),.string s] w (F3 (O2 m s.data.toList).1 B b (O2 m s.data.toList).2 w):=by
 by_cases q2:s.data.toList=[111,110]
 .rw[q2,A1p q2,show O2 m [111,110]=(A1d,{ m with on:=true }) from by unfold O2;rw[if_pos rfl]]
  exact B5Y B b m g f d w h a
 by_cases q3:s.data.toList=[111,102,102]
 .rw[q3,A1p q3,show O2 m [111,102,102]=(A1d,{ m with on:=false }) from by unfold O2;rw[if_neg (by decide),if_pos rfl]]
  exact B3S B b m g f d w h a
 by_cases q4:s.data.toList=[116,114,105,101,100]
 .rw[q4,A1p q4,show O2 m [116,114,105,101,100]=(Lib.decDigits m.tried,m) from by unfold O2;rw[if_neg (by decide),if_neg (by decide),if_pos rfl]]
  exact A86 B b m g f d w h a
 by_cases q1:s.data.toList=[108,105,115,116]
 .rw[q1,A1p q1,show O2 m [108,105,115,116]=(T2 (D3 (m.ms.map S7)),m) from by unfold O2;rw[if_neg (by decide),if_neg (by decide),if_neg (by decide),if_pos rfl]]
  exact B0m B b m g f d w h a
 unfold O2;rw[if_neg q2,if_neg q3,if_neg q4,if_neg q1];cases hc:O4 32 s.data.toList with
 | none=>exact A89 B b m g f d s ⟨i,q1,q2,q3,q4⟩ (A9B hc) w h a
 | some p =>
   obtain⟨F,r⟩:=p;obtain⟨k,t,y,o,c,D⟩:=A9C hc;have L:(s.extract (k+1) s.size).size=r.length:=by rw[D];simp
   have J:(⟨r.toArray⟩:B_)=s.extract (k+1) s.size:=by rw[D]
   have R:(s.extract (k+1) s.size).size<=3000:=Nat.le_trans (N5 _ _ _) i;dsimp only;by_cases r1:F=[97,100,100]
   .rw[if_pos r1,J]
    exact B3T B b m g f d s ⟨i,q1,q2,q3,q4⟩ k t y o (by rw[←c,r1]) w h a
   rw[if_neg r1];by_cases r2:F=[114,101,109,111,118,101]
   .rw[if_pos r2]
    cases hm:F9 r with
    | none=>exact A5g B b m g f d s ⟨i,q1,q2,q3,q4⟩ k t y o (by rw[←c,r2]) (by rw[←D];exact hm) w h a
    | some n=>exact A7e B b m g f d s ⟨i,q1,q2,q3,q4⟩ k t y o (by rw[←c,r2]) n (by rw[←D];exact hm) w h a
   rw[if_neg r2];by_cases r3:F=[115,99,97,110]
   .rw[if_pos r3]
    by_cases h4:400<r.length
    .rw[if_pos h4]
     exact A5f B b m g f d s ⟨i,q1,q2,q3,q4⟩ k t y o (by rw[←c,r3]) [] (by simp) (λq S=>by cases S) 3 (by omega) m w h a ((B1E b (s.extract (k+1) s.size) w (by omega)).mono (by
      rintro e w'⟨rfl,rfl⟩;exact⟨none,0,rfl,Rd.nil _ 3,g,f,d,h,DK.refl _ _ _⟩))
    .rw[if_neg h4]
     have:=A5f B b m g f d s ⟨i,q1,q2,q3,q4⟩ k t y o (by rw[←c,r3]) (m.hits r) (Wf.hits_len h.ok (by omega)) (A29 a (by omega) (by omega)) 0 (by omega) (m.scan r) w h a ((B75 B b m g f d (s.extract (k+1) s.size) w h (by omega)).mono (by
      rintro e w'⟨A,cap,P,O,Q,N⟩;rw[←D] at P O Q;exact⟨A,cap,P,Rd.of_own O,g,f,d,Q,N⟩))
     exact this
   rw[if_neg r3];by_cases r4:F=[112,117,116]
   .rw[if_pos r4]
    obtain⟨rb,l⟩:∃rb,rb=s.extract (k+1) s.size:=⟨_,rfl⟩
    rw[←l] at D L;subst D;cases hc2:O4 32 rb.data.toList with
    | none=>exact A87 B b m g f d s ⟨i,q1,q2,q3,q4⟩ k t y o (by rw[←c,r4]) rb l (A9B hc2) w h a
    | some p =>
      obtain⟨V,T⟩:=p;obtain⟨j,G,C,z,rfl,rfl⟩:=A9C hc2;dsimp only;cases hm:F9 (rb.extract 0 j).data.toList with
      | none=>exact A7f B b m g f d s ⟨i,q1,q2,q3,q4⟩ k t y o (by rw[←c,r4]) rb l j G C z hm w h a
      | some n =>
        dsimp only;cases hp:m.place (n:Int) with
        | none=>exact A6D B b m g f d s ⟨i,q1,q2,q3,q4⟩ k t y o (by rw[←c,r4]) rb l j G C z n hm hp w h a
        | some p =>
          have E:=A0e hp;have H:m.ms[p]?=some (m.ms[p]'E):=List.getElem?_eq_getElem E;rw[Option.bind_some,H];by_cases h4:400<(rb.extract (j+1) rb.size).size
          .have M:A2o (m.ms[p]'E) (rb.extract (j+1) rb.size).data.toList=A0J 3:=by
            unfold A2o;rw[if_pos (by rw[C7];exact h4)]
           dsimp only;rw[M];exact A6E B b m g f d s ⟨i,q1,q2,q3,q4⟩ k t y o (by rw[←c,r4]) rb l j G C z n hm p _ hp H _ rfl h4 w h a
          .exact B3R B b m g f d s ⟨i,q1,q2,q3,q4⟩ k t y o (by rw[←c,r4]) rb l j G C z n hm p _ hp H _ rfl h4 w h a
   rw[if_neg r4];exact A88 B b m g f d s ⟨i,q1,q2,q3,q4⟩ k t y o (by rw[←c];exact r1) (by rw[←c];exact r2) (by rw[←c];exact r3) (by rw[←c];exact r4) w h a
theorem A4G(s:B_)(a b:Nat):(s.extract a b).data.toList=(s.data.toList.take b).drop a:=A2D s a b
theorem B2z{s:B_}{a b:Nat}(o:a<=b)(q:b<s.size)(g:s.data.toList[b]?=some 10)(k:∀j:Nat,a<=j->j<b->s.data.toList[j]?≠some 10):
 J2 (s.data.toList.drop a)=(s.extract a b).data.toList::J2 (s.data.toList.drop (b+1)):=by
 have i:s.data.toList.length=s.size:=by simp
 obtain⟨hlt,h⟩:=List.getElem?_eq_some_iff.1 g
 have e:s.data.toList.drop a=(s.extract a b).data.toList++10::s.data.toList.drop (b+1):=by
  rw[A4G,←h,←List.drop_eq_getElem_cons hlt];have p:s.data.toList.drop a=(s.data.toList.take b++s.data.toList.drop b).drop a:=by rw[List.take_append_drop]
  rw[p,List.drop_append_of_le_length (by rw[List.length_take];omega)]
 rw[e]
 exact A6i _ λc n d=>by
  obtain⟨j,l,m⟩:=List.getElem_of_mem n;have f:(s.extract a b).data.toList[j]?=some 10:=by rw[List.getElem?_eq_getElem l,m,d]
  rw[A4G,List.getElem?_drop,List.getElem?_take] at f
  split at f
  .exact k (a+j) (by omega) (by omega) f
  .cases f
theorem B0W{s:B_}{a:Nat}(k:a<s.size)(g:∀j:Nat,a<=j->j<s.size->s.data.toList[j]?≠some 10):
 J2 (s.data.toList.drop a)=[(s.extract a s.size).data.toList]:=by
 have f:s.data.toList.length=s.size:=by simp
 rw[A4G,List.take_of_length_le (by omega)]
 refine A6h (λc i b=>?_) (by
  intro e;have:=congrArg List.length e;rw[List.length_drop,List.length_nil] at this;omega)
 obtain⟨j,h,d⟩:=List.getElem_of_mem i;rw[List.length_drop] at h;rw[List.getElem_drop] at d;exact g (a+j) (by omega) (by omega) (by rw[List.getElem?_eq_getElem (by omega),d,b])
theorem o9.zero(w:W_)(b:Nat)(a:b=w.heap.size):o9 b b SS.zero (.slice none 0 0) (.slice none 0 0) [] (w.alloc (.cells #[.slice none 0 0,.slice none 0 0,.int .i64 0,.bool false,.int .i64 0] 44)):=by
 subst a;exact⟨lr_ _,J0.new _ _ _,World.ownsRow_nil _ _ _ _,World.ownsRow_nil _ _ _ _,r6.nil _ _,SS.ok_zero,by decide⟩
def A9e(w:W_)(m:SS)(W:W_):Prop:=Below w.heap.size w W/\∃(c b:V_)(a:List V_),o9 w.heap.size w.heap.size m c b a W
theorem A9e.start(w:W_):A9e w SS.zero (w.alloc (.cells #[.slice none 0 0,.slice none 0 0,.int .i64 0,.bool false,.int .i64 0] 44)) :=
 ⟨ba_,_,_,_,o9.zero w _ rfl⟩
theorem A0s{m:SS}{n k:Nat}(h:m.small n)(a:n<=k):m.small k:=⟨h.ok,by have:=h.last;omega,h.tried⟩
theorem B1W(w:W_)(m:SS)(x:B_)(i:x.size<=3000)(W:W_)(h:A9e w m W)(b:m.small 3000):
 Calls prog 12 #[.pointer (some ⟨w.heap.size,0,none⟩),.string x] W (λe w'=>∃t:B_,e=.returned (.string t)/\t.data.toList=(O2 m x.data.toList).1/\A9e w (O2 m x.data.toList).2 w'):=by
 obtain⟨p,r,q,g,o⟩:=h;refine(B7Z _ _ m r q g x i W o b).mono λe w' l=>?_
 obtain⟨t,f,d,a,n,j,c,k⟩:=l;exact⟨t,n,j,p.trans k.bel,f,d,a,c⟩
def B1z(r:List U_)(w:W_)(e:Ending)(w':W_):Prop:=∃t:B_,e=.returned (.string t)/\t.data.toList=r/\Below w.heap.size w w'
theorem B6H(s:B_)(Y:s.size<=9223372036854775807)(w:W_):
 Calls prog 6 #[.string s] w (B1z (A4e s.data.toList) w):=by
 have L:s.data.toList.length=s.size:=by simp
 unfold B1z;by_cases N:3000<s.size
 .have X:Hid (A4e s.data.toList=B8W):=hid (by unfold A4e;rw[if_pos (by omega)])
  have d:=dt_ ((3000:Int)<s.size);clear L N;go_enter func6,ntmps6;go_wp2_with fail;go_ret;exact⟨_,rfl,by rw[X.out];rfl,br_⟩
 have X:Hid (A4e s.data.toList=k7 SS.zero (J2 s.data.toList)):=hid (by unfold A4e;rw[if_neg (by omega)]);have d:=df_ ((3000:Int)<s.size);have ac:s.size<=3000:=by omega
 have S:=hid (A9e.start w);clear L N;go_enter func6,ntmps6;go_wp2_with fail
 go_loopw [4,5,6] (λv4 v5 v6 wr=>∃(b:B_)(a i:Nat) (m:SS),v4=.string b/\v5=.int .i64 a/\v6=.int .i64 i/\a<=i/\i<=s.size+1/\(i=s.size+1->s.size<=a)/\b.size<=80001*a/\Hid (∀j:Nat,a<=j->j<i->j<s.size->s.data.toList[j]?≠some 10)/\Hid (k7 SS.zero (J2 s.data.toList)=b.data.toList++k7 m (J2 (s.data.toList.drop a)))/\Hid (m.small a)/\Hid (A9e w m wr)) (λ_ _ i _=>s.size+1 - (intOf i).toNat)
 case atStart=>exact⟨⟨#[]⟩,0,0,SS.zero,rfl,rfl,rfl,by omega,by omega,by omega,by simp[bsz],hid (λj _ h=>by omega),hid rfl,hid SS.small_zero,S⟩
 case round =>
  clear S;obtain⟨b,a,i,m,rfl,rfl,rfl,V,ad,p,M,g,C,o,Q⟩:=hrel;have i0:(0:Int)<=i:=by omega
  have a0:(0:Int)<=a:=by omega
  have ai:(a:Int)<=i:=by omega
  by_cases hle:i<=s.size
  .have d1:=dt_ ((i:Int)<=s.size)
   have ab:(i:Int)<=s.size:=by omega
   by_cases hlt:i<s.size
   .have d2:=dt_ ((i:Int)<s.size)
    have d3:((i:Int)==(s.size:Int))=false:=by rw[beq_eq_false_iff_ne];omega
    by_cases h10:s.data.toList[i]?=some 10
    .have f1:(((s[i]'hlt).toNat:Int) !=10)=false:=Y6 hlt h10
     have c:=B2z V hlt h10 (λj r q=>g.out j r q (by omega));clear h10 g
     have f:(s.extract a i).data.toList.length=i - a:=by
      rw[C7,ByteArray.size_extract];omega
     have E:Hid ((O2 m (s.extract a i).data.toList).2.small (i+1)):=hid (A0s (o.out.line (s.extract a i).data.toList) (by rw[f];omega));have l:=A37 o.out (by omega) (s.extract a i).data.toList
     have B:Hid (k7 SS.zero (J2 s.data.toList)=(b.data.toList++((O2 m (s.extract a i).data.toList).1++[10]))++k7 (O2 m (s.extract a i).data.toList).2 (J2 (s.data.toList.drop (i+1)))):=hid (by
      rw[C.out,c];simp[k7])
     have F:=hid λW (hW:A9e w m W)=>B1W w m (s.extract a i) (by rw[←C7,f];omega) W hW (A0s o.out (by omega))
     have T:b.size<=300000000:=by omega
     have z:Hid (∀t:B_,t.data.toList=(O2 m (s.extract a i).data.toList).1->t.size<=80000/\(b++t++(⟨#[10]⟩:B_)).size<=80001*(i+1)/\(b++t++(⟨#[10]⟩:B_)).data.toList=b.data.toList++((O2 m (s.extract a i).data.toList).1++[10])):=hid λt k=>by
      have y:t.data.toList.length=t.size:=by simp
      rw[k] at y;refine⟨by omega,?_,by rw[L0,L0,k];simp⟩;rw[ByteArray.size_append,ByteArray.size_append];show b.size+t.size+1<=_;omega
     generalize (O2 m (s.extract a i).data.toList).1=R at *;generalize (O2 m (s.extract a i).data.toList).2=m2 at *;clear c f l C o;go_wp2_with fail;refine(F.out _ Q.out).mono ?_;rintro e Z⟨t,rfl,k,n⟩;have G:=hid n;obtain⟨t1,J,H⟩:=z.out t k;have A:=hid H;have D:=hid J;clear n k J H;go_wp2_with fail;go_roundw
     case rel=>exact⟨_,i+1,i+1,m2,rfl,by go_num,by go_num,by omega,by omega,by omega,D.out,hid (λj r q=>by omega),hid (by rw[A.out];exact B.out),E,G⟩
     case measure=>simp[intOf];omega
    .have f1:(((s[i]'hlt).toNat:Int) !=10)=true:=R4 hlt h10
     have O:Hid (∀j:Nat,a<=j->j<i+1->j<s.size->s.data.toList[j]?≠some 10):=hid λj r q N=>by
      by_cases hji:j=i
      .rw[hji];exact h10
      .exact g.out j r (by omega) N
     clear h10 g;go_wp2_with fail;go_roundw
     case rel=>exact⟨b,a,i+1,m,rfl,rfl,by go_num,by omega,by omega,by omega,M,O,C,o,Q⟩
     case measure=>simp[intOf];omega
   .obtain rfl:i=s.size:=by omega
    have d2:=df_ ((s.size:Int)<(s.size:Int));have d3:((s.size:Int)==(s.size:Int))=true:=beq_self_eq_true _;by_cases haz:a=s.size
    .have d4:((a:Int)==(s.size:Int))=true:=by rw[haz];exact beq_self_eq_true _
     go_wp2_with fail;go_roundw
     case rel=>exact⟨b,a,s.size+1,m,rfl,rfl,by go_num,by omega,by omega,by omega,M,hid (λj r q N=>by omega),C,o,Q⟩
     case measure=>simp[intOf]
    .have d4:((a:Int)==(s.size:Int))=false:=by rw[beq_eq_false_iff_ne];omega
     have c:J2 (s.data.toList.drop a)=(s.extract a s.size).data.toList::J2 (s.data.toList.drop (s.size+1)):=by
      rw[B0W (by omega) (λj r q=>g.out j r q q),List.drop_of_length_le (by rw[C7];omega)]
      rfl
     clear g
     have f:(s.extract a s.size).data.toList.length=s.size - a:=by
      rw[C7,ByteArray.size_extract];omega
     have E:Hid ((O2 m (s.extract a s.size).data.toList).2.small (s.size+1)):=hid (A0s (o.out.line (s.extract a s.size).data.toList) (by rw[f];omega));have l:=A37 o.out (by omega) (s.extract a s.size).data.toList
     have B:Hid (k7 SS.zero (J2 s.data.toList)=(b.data.toList++((O2 m (s.extract a s.size).data.toList).1++[10]))++k7 (O2 m (s.extract a s.size).data.toList).2 (J2 (s.data.toList.drop (s.size+1)))):=hid (by
      rw[C.out,c];simp[k7])
     have F:=hid λW (hW:A9e w m W)=>B1W w m (s.extract a s.size) (by rw[←C7,f];omega) W hW (A0s o.out (by omega))
     have T:b.size<=300000000:=by omega
     have z:Hid (∀t:B_,t.data.toList=(O2 m (s.extract a s.size).data.toList).1->t.size<=80000/\(b++t++(⟨#[10]⟩:B_)).size<=80001*(s.size+1)/\(b++t++(⟨#[10]⟩:B_)).data.toList=b.data.toList++((O2 m (s.extract a s.size).data.toList).1++[10])):=hid λt k=>by
      have y:t.data.toList.length=t.size:=by simp
      rw[k] at y;refine⟨by omega,?_,by rw[L0,L0,k];simp⟩;rw[ByteArray.size_append,ByteArray.size_append];show b.size+t.size+1<=_;omega
     generalize (O2 m (s.extract a s.size).data.toList).1=R at *;generalize (O2 m (s.extract a s.size).data.toList).2=m2 at *;clear c f l C o;go_wp2_with fail;refine(F.out _ Q.out).mono ?_;rintro e Z⟨t,rfl,k,n⟩;have G:=hid n;obtain⟨t1,J,H⟩:=z.out t k;have A:=hid H;have D:=hid J;clear n k J H;go_wp2_with fail;go_roundw
     case rel=>exact⟨_,s.size+1,s.size+1,m2,rfl,by go_num,by go_num,by omega,by omega,by omega,D.out,hid (λj r q=>by omega),hid (by rw[A.out];exact B.out),E,G⟩
     case measure=>simp[intOf]
  .obtain rfl:i=s.size+1:=by omega
   have d1:=df_ (((s.size+1:Nat):Int)<=(s.size:Int));have d1':=df_ ((s.size:Int)+1<=(s.size:Int))
   have P:Hid (b.data.toList=A4e s.data.toList):=hid (by
    rw[X.out,C.out,List.drop_of_length_le (by rw[C7];exact p rfl)];simp[J2,k7])
   clear p;go_wp2_with fail;go_ret;exact⟨_,rfl,P.out,Q.out.1⟩
