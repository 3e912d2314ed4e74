import Derived.Test.YthhcpbfgoofppaaGreatDoorGRex
import Derived.Test.YthhcpbfgoofppaaGreatDoorGSh
import Derived.Laws.Runes
set_option linter.unusedVariables false
set_option linter.unusedSimpArgs false
open Wf
set_option maxRecDepth 100000
set_option maxHeartbeats 8000000
open Go.Lib (hid)
open Go.Proofs.Tryz hiding parts
namespace Go.Proofs.YthhcpbfgoofppaaGreatDoor
open Go.RowKit Wf
theorem J0.new2(w:W_)(o:Obj)(t:TypeId)(cs:Array V_):J0 ((w.alloc o).alloc (.cells cs t)) (w.heap.size+1) t cs:=by
 have h:=J0.new (w.alloc o) t cs
 simpa using h
theorem J0.new3(w:W_)(o a:Obj)(t:TypeId)(cs:Array V_):J0 (((w.alloc o).alloc a).alloc (.cells cs t)) (w.heap.size+1+1) t cs:=by
 have h:=J0.new ((w.alloc o).alloc a) t cs
 simpa using h
theorem B0z(w:W_)(o a:Obj):Below w.heap.size w ((w.alloc o).alloc a):=ba_.alloc (by simp) _
theorem B9E(w:W_)(o b a:Obj):Below w.heap.size w (((w.alloc o).alloc b).alloc a):=(B0z w o b).alloc (by simp;omega) _
theorem B9s(w:W_)(o a:Obj):w.heap.size<=((w.alloc o).alloc a).heap.size:=by simp;omega
theorem B9r(w:W_)(o b a:Obj):w.heap.size<=(((w.alloc o).alloc b).alloc a).heap.size:=by simp;omega
theorem A3B{w w':W_}{g:Nat}(h:Below w.heap.size w w')(f:w.heap.size<=g)(a b c d:V_):Below w.heap.size w ((((w'.setCell ⟨g,0,none⟩ a).setCell ⟨g,1,none⟩ b).setCell ⟨g,2,none⟩ c).setCell ⟨g,3,none⟩ d) :=
 (((h.setCell f _).setCell f _).setCell f _).setCell f _
theorem B52(a:Nat)(b:a<18446744073709551616):bits .and .u64 (a:Int) 6148914691236517205=((a &&& 6148914691236517205:Nat):Int):=u64_and_nat a 6148914691236517205 b (by decide)
theorem B53(a:Nat)(b:a<18446744073709551616):bits .and .u64 (a:Int) 3689348814741910323=((a &&& 3689348814741910323:Nat):Int):=u64_and_nat a 3689348814741910323 b (by decide)
theorem B9L(a:Nat)(b:a<18446744073709551616):bits .and .u64 (a:Int) 1085102592571150095=((a &&& 1085102592571150095:Nat):Int):=u64_and_nat a 1085102592571150095 b (by decide)
theorem w64{a:Int}{n:Nat}(h:a=(n:Int))(b:n<18446744073709551616):IntKind.u64.wrap a=(n:Int):=by
 rw[IntKind.wrap_u64,h];omega
theorem B9M{x p:Nat}(h:x % 128=p)(a:x<18446744073709551616):bits .and .i64 (wrap64 (x:Int)) 127=(p:Int):=by
 rw[i64_and127,wrap64];omega
theorem B3H(x:Nat):((x:Int) / 2)=((x / 2:Nat):Int):=by omega
theorem B0K(x:Nat):((x:Int) / 4)=((x / 4:Nat):Int):=by omega
theorem A7K{x y k:Nat}(h:y=x+x / k):(x:Int)+x / (k:Int)=(y:Int):=by
 rw[h];simp
theorem B2Y(x:Nat):(x:Int) / 16+(x:Int)=((x / 16+x:Nat):Int):=by omega
theorem B4j(x:Nat)(w:W_)(M:x<18446744073709551616):Calls prog 177 #[.int .u64 x] w (λe w'=>e=.returned (.int .i64 (J6 64 x:Nat))/\w'=w):=by
 obtain⟨b,q⟩:∃b,b=((x / 2) &&& 6148914691236517205)+(x &&& 6148914691236517205):=⟨_,rfl⟩
 obtain⟨a,o⟩:∃a,a=((b / 4) &&& 3689348814741910323)+(b &&& 3689348814741910323):=⟨_,rfl⟩
 obtain⟨d,n⟩:∃d,d=(a / 16+a) &&& 1085102592571150095:=⟨_,rfl⟩
 obtain⟨c,m⟩:∃c,c=d+d / 256:=⟨_,rfl⟩
 obtain⟨f,l⟩:∃f,f=c+c / 65536:=⟨_,rfl⟩
 obtain⟨g,k⟩:∃g,g=f+f / 4294967296:=⟨_,rfl⟩
 obtain⟨A,L,i,s,r,h⟩:=A8f x b a d c f g q o n m l k;generalize J6 64 x=p at *;have J:d<=c:=by omega
 have z:x / 2<18446744073709551616:=by omega
 have y:b / 4<18446744073709551616:=by omega
 have j:b<18446744073709551616:=by omega
 have t:a<18446744073709551616:=by omega
 have H:IntKind.u64.wrap (bits .and .u64 ((x:Int) / 2) 6148914691236517205+bits .and .u64 (x:Int) 6148914691236517205)=(b:Int):=by
  rw[B3H,B52 _ z,B52 _ M];exact w64 (by rw[q,Int.natCast_add]) j
 have G:IntKind.u64.wrap (bits .and .u64 ((b:Int) / 4) 3689348814741910323+bits .and .u64 (b:Int) 3689348814741910323)=(a:Int):=by
  rw[B0K,B53 _ y,B53 _ j];exact w64 (by rw[o,Int.natCast_add]) t
 have F:bits .and .u64 (IntKind.u64.wrap ((a:Int) / 16+(a:Int))) 1085102592571150095=(d:Int):=by
  rw[w64 (B2Y a) i,B9L _ i,←n]
 have E:IntKind.u64.wrap ((d:Int)+d / 256)=(c:Int):=w64 (A7K m) s;have D:IntKind.u64.wrap ((c:Int)+c / 65536)=(f:Int):=w64 (A7K l) r;have C:IntKind.u64.wrap ((f:Int)+f / 4294967296)=(g:Int):=w64 (A7K k) h;have B:bits .and .i64 (wrap64 (g:Int)) 127=(p:Int):=B9M A h;clear q o n m l k A L i J s r h z y j t;have T:=hid H;have S:=hid G;have R:=hid F;have Q:=hid E;have P:=hid D;have O:=hid C;have N:=hid B;clear H G F E D C B;go_enter func177,ntmps177;go_wp2;refine bodyPost_ret (v:=.int .i64 p) ?_ rfl ⟨rfl,rfl⟩;simp[results,results177,go_sem,T.out,S.out,R.out,Q.out,P.out,O.out,N.out]
def C0J(n:Nat)(w:W_)(e:Ending)(w':W_):Prop:=∃m:Nat,e=.returned (.int .i64 m)/\m=n/\Below w.heap.size w w'
def A63(c:X4):Nat->Nat
 | 0=>0
 | k+1=>A63 c k+J6 64 (word c k)
theorem B6v(d c b a k:Nat)(w:W_)(f:k<4):(Instr.index 112 (.agg #[.int .u64 d,.int .u64 c,.int .u64 b,.int .u64 a]) (.int .i64 k)).run prog w=.ok (.int .u64 (word (d,c,b,a) k:Int)) w:=by
 match k,f with
 | 0,_=>simp[Instr.index,asIntOf,run_underlying underlying112,go_sem,word]
 | 1,_=>simp[Instr.index,asIntOf,run_underlying underlying112,go_sem,word]
 | 2,_=>simp[Instr.index,asIntOf,run_underlying underlying112,go_sem,word]
 | 3,_=>simp[Instr.index,asIntOf,run_underlying underlying112,go_sem,word]
theorem B3Z(c:X4):A63 c 4=B6 c:=by simp[A63,B6,word]
theorem B6R(d c b a:Nat)(w:W_)(f:P5 (d,c,b,a)):
 Calls prog 151 #[.agg #[.int .u64 d,.int .u64 c,.int .u64 b,.int .u64 a]] w (C0J (B6 (d,c,b,a)) w):=by
 have s:=hid (λk=>A1W f k);clear f;go_enter func151,ntmps151;go_wp2
 go_loopw [3,7] (λv3 v7 wr=>∃k m:Nat,k<=4/\v7=.int .i64 k/\v3=.int .i64 m/\m<=64*k/\Hid (m=A63 (d,c,b,a) k)/\Hid (Below w.heap.size w wr)) (λ_ i _=>4 - (intOf i).toNat)
 case atStart=>exact⟨0,0,by omega,rfl,rfl,by omega,hid rfl,hid ba_⟩
 case round =>
  obtain⟨k,m,B,rfl,rfl,A,l,n⟩:=hrel;by_cases hlt:k<4
  .have q:(0:Int)<=k:=by omega
   have o:(k:Int)<4:=by omega
   have j:=λW=>B6v d c b a k W hlt
   have g:=s.out k;obtain⟨p,z,r,h⟩:∃p:Nat,p<=64/\Hid (A63 (d,c,b,a) (k+1)=A63 (d,c,b,a) k+p)/\Hid (p=J6 64 (word (d,c,b,a) k)):=⟨_,A3T 64 _,hid rfl,hid rfl⟩
   generalize hx:word (d,c,b,a) k=x at *;have t:Hid (∀W,Calls prog 177 #[.int .u64 x] W (λe w'=>e=.returned (.int .i64 (p:Nat))/\w'=W)):=hid λW=>by rw[h.out];exact B4j x W g
   clear hx
   go_wp2_with (go_at_call 177;refine(t.out _).mono ?_;rintro e y⟨rfl,rfl⟩)
   go_roundw
   case rel=>exact⟨k+1,m+p,by omega,by go_num,by go_num,by omega,hid (by rw[r.out,l.out]),n⟩
   case measure=>simp[intOf];omega
  .obtain rfl:k=4:=by omega
   have C:decide ((4:Int)<4)=false:=by simp
   go_wp2;go_ret;exact⟨m,rfl,by rw[l.out,B3Z],n.out⟩
def B1J(c:X4)(w:W_)(e:Ending)(w':W_):Prop :=
 (∃b:Nat,e=.returned (.tuple #[.int .u8 b,.bool true])/\B6 c=1/\b=R7 c 0/\b<256/\Below w.heap.size w w') \/
   (e=.returned (.tuple #[.int .u8 0,.bool false])/\B6 c≠1/\Below w.heap.size w w')
theorem A5v(h f d c:Nat)(w:W_)(r:P5 (h,f,d,c)):
 Calls prog 114 #[.agg #[.int .u64 h,.int .u64 f,.int .u64 d,.int .u64 c]] w (B1J (h,f,d,c) w):=by
 have L:=hid λW=>B6R h f d c W r
 have M:=hid λb W Q=>A7x h f d c b W r Q
 clear r;by_cases h1:B6 (h,f,d,c)=1
 .obtain⟨G,j⟩:=F8 h1
  have a:∀e w',(∃b:Nat,e=.returned (.tuple #[.int .u8 b,.bool true])/\b=R7 (h,f,d,c) 0/\b<256/\Below w.heap.size w w')->B1J (h,f,d,c) w e w':=by
   rintro e w'⟨b,B,A,S,R⟩;exact .inl ⟨b,B,h1,A,S,R⟩
  refine Calls.mono ?_ a;have F:=hid h1;obtain⟨g,H⟩:∃g,R7 (h,f,d,c) 0=g:=⟨_,rfl⟩
  rw[H] at G j ⊢;have q:=hid j;clear h1 j a H;go_enter func114,ntmps114
  go_wp2_with (go_at_call 151;refine(L.out _).mono ?_;rintro e O⟨m,rfl,z,l⟩;have y:(m:Int)=1:=(by have:=F.out;omega);have n:=hid l;clear z l)
  have p:=(J0.new w 112 #[.int .u64 h,.int .u64 f,.int .u64 d,.int .u64 c]).kept n.out;have s:=((Below.refl w.heap.size w).alloc (lr_ _) (.cells #[.int .u64 h,.int .u64 f,.int .u64 d,.int .u64 c] 112)).trans (n.out.mono (by simp));have t:=hid p;have D:=hid s;clear p s n
  go_loopw [4] (λv4 wr=>∃k:Nat,k<=g/\v4=.int .i64 k/\Hid (J0 wr w.heap.size 112 #[.int .u64 h,.int .u64 f,.int .u64 d,.int .u64 c])/\Hid (Below w.heap.size w wr)) (λi _=>g - (intOf i).toNat)
  case atStart=>exact⟨0,by omega,rfl,t,D⟩
  case round =>
   obtain⟨k,hk,rfl,E,J⟩:=hrel;obtain⟨⟨x0,x1,x2,Z⟩,Y,X,V,T⟩:=V1 E.out;have P:=E.out.lt;by_cases hlt:k<g
   .have C:Hid (has (h,f,d,c) k=false):=hid (by
     cases hh:has (h,f,d,c) k with
     | false=>rfl
     | true=>have:=(q.out k (by omega)).1 hh;omega)
    go_wp2_with (go_at_call 140;refine(M.out k _ (by omega)).mono ?_;rw[show A3y (h,f,d,c) k wr=λe w'=>e=.returned (.bool false)/\Below wr.heap.size wr w' from by unfold A3y;rw[C.out]];rintro e N⟨rfl,o⟩)
    go_roundw
    case rel=>exact⟨k+1,by omega,by go_num,hid (E.out.kept o),hid (J.out.trans (o.mono (by omega)))⟩
    case measure=>simp[intOf];omega
   .obtain rfl:k=g:=by omega
    have C:Hid (has (h,f,d,c) k=true):=hid ((q.out k (by omega)).2 rfl)
    go_wp2_with (go_at_call 140;refine(M.out k _ (by omega)).mono ?_;rw[show A3y (h,f,d,c) k wr=λe w'=>e=.returned (.bool true)/\Below wr.heap.size wr w' from by unfold A3y;rw[C.out]];rintro e N⟨rfl,o⟩)
    go_ret2;exact⟨k,rfl,rfl,G,J.out.trans (o.mono (by omega))⟩
 .have a:∀e w',(e=.returned (.tuple #[.int .u8 0,.bool false])/\Below w.heap.size w w')->B1J (h,f,d,c) w e w':=by
   rintro e w'⟨B,A⟩;exact .inr ⟨B,h1,A⟩
  refine Calls.mono ?_ a;have F:=hid h1;clear h1 a;go_enter func114,ntmps114
  go_wp2_with (go_at_call 151;refine(L.out _).mono ?_;rintro e O⟨m,rfl,z,l⟩;have y:((m:Int) !=1)=true:=bne_iff_ne.2 (by have:=F.out;omega);have n:=hid l;clear z l)
  all_goals
   go_ret2;exact⟨rfl,((Below.refl w.heap.size w).alloc (lr_ _) (.cells #[.int .u64 h,.int .u64 f,.int .u64 d,.int .u64 c] 112)).trans (n.out.mono (by simp))⟩
def L5(l:List U_)(w:W_)(e:Ending)(w':W_):Prop:=∃s:B_,e=.returned (.string s)/\s.data.toList=l/\Below w.heap.size w w'
theorem B9y:∀b:Fin 256,(b.val<32\/126<b.val)->(ByteArray.mk #[92,120]++(ByteArray.mk #[48,49,50,51,52,53,54,55,56,57,97,98,99,100,101,102]).extract (b.val / 16) (b.val / 16+1)++(ByteArray.mk #[48,49,50,51,52,53,54,55,56,57,97,98,99,100,101,102]).extract (b.val % 16) (b.val % 16+1)).data.toList=C4 b.val:=by decide +kernel
theorem B1U:∀b:Fin 256,(0<=Lib.indexByte [92,46,91,93,40,41,124,42,43,63,94,36,45] (UInt8.ofNat b.val))↔(UInt8.ofNat b.val∈X0):=by decide +kernel
theorem B3P(b:Nat)(h:b<128):Utf8.encode (b:Int)=⟨#[UInt8.ofNat b]⟩:=by
 have a:Utf8.valid (b:Int)=true:=by unfold Utf8.valid;simp;omega
 unfold Utf8.encode;simp[a,h]
theorem B3X(b:Nat)(w:W_)(h:b<128):(convert 21 9 (.int .i32 (b:Int))).run prog w=.ok (.string ⟨#[UInt8.ofNat b]⟩) w:=by
 rw[run_convert_int_string w _ _ _ _ (by rw[underlying21];rfl) underlying9,B3P b h]
theorem t6(s:B_):s.size=s.data.toList.length:=by simp
theorem A7{s:B_}{b:Nat}(h:s.data.toList=C4 b):s.size<=4:=by
 rw[t6,h];exact(A1P b).1
theorem L0(a b:B_):(a++b).data.toList=a.data.toList++b.data.toList:=by simp
theorem A53(b:Nat)(w:W_)(d:b<256):Calls prog 138 #[.int .u8 b] w (L5 (C4 b) w):=by
 by_cases h:b<32\/126<b
 .have i:(decide ((b:Int)<32) || decide ((126:Int)<b))=true:=by simp;omega
  have n:(0:Int)<=b / 16:=by omega
  have m:(b:Int) / 16<16:=by omega
  have k:=hid (B9y ⟨b,d⟩ h);go_enter func138,ntmps138;go_wp2_with fail
  all_goals go_quiet (fail)
  all_goals
   go_wp2;go_ret;exact⟨_,rfl,k.out,M0 br_ _⟩
 .have i:(decide ((b:Int)<32) || decide ((126:Int)<b))=false:=by simp;omega
  have j:=λW=>B3X b W (by omega)
  have a:=hid (B1U ⟨b,d⟩);dsimp only at a;have f:Hid (C4 b=if UInt8.ofNat b∈X0 then [92,UInt8.ofNat b] else [UInt8.ofNat b]):=hid (by unfold C4;rw[if_neg h]);go_enter func138,ntmps138
  go_wp2_with (go_at_call 170;refine(A9m _ _ _).mono ?_;rintro e l⟨rfl,rfl⟩)
  .have c:0<=Lib.indexByte [92,46,91,93,40,41,124,42,43,63,94,36,45] (UInt8.ofNat b):=by assumption
   go_ret;exact⟨_,rfl,by rw[f.out,if_pos (a.out.1 c),L0];rfl,br_⟩
  .have c:Lib.indexByte [92,46,91,93,40,41,124,42,43,63,94,36,45] (UInt8.ofNat b)<0:=by assumption
   go_ret;exact⟨_,rfl,by rw[f.out,if_neg (λg=>by have:=a.out.2 g;omega)],br_⟩
theorem B6w(d c:Nat)(w:W_)(N:d<=c)(G:c<256):Calls prog 141 #[.int .i64 d,.int .i64 c] w (L5 (spT d c) w):=by
 have o:=hid λW=>A53 d W (by omega)
 have p:=hid λW=>A53 c W G
 have A:Hid (∀s t:B_,s.data.toList=C4 d->t.data.toList=C4 c->(c=d->s.data.toList=spT d c)/\(c=d+1->(s++t).data.toList=spT d c)/\(d+1<c->(s++⟨#[45]⟩++t).data.toList=spT d c)):=hid (by
  intro s t z F;unfold spT;refine⟨λh=>?_,λh=>?_,λh=>?_⟩
  .rw[if_pos (by omega),z]
  .rw[if_neg (by omega),if_pos (by omega),L0,z,F]
  .rw[if_neg (by omega),if_neg (by omega),L0,L0,z,F])
 have M:(0:Int)<=d:=by omega
 have L:(d:Int)<256:=by omega
 have J:(0:Int)<=c:=by omega
 have H:(c:Int)<256:=by omega
 rcases(show c=d\/c=d+1\/d+1<c by omega) with hc|hc|hc
 .have n:((c:Int) - (d:Int)==0)=true:=beq_iff_eq.2 (by omega)
  have m:((c:Int) - (d:Int)==1)=false:=beq_eq_false_iff_ne.2 (by omega);have y:=hid hc;clear hc;go_enter func141,ntmps141
  go_wp2_with (first
   | (go_at_call 138;refine(o.out _).mono ?_;clear o;rintro e C⟨E,rfl,b,g⟩;have r:=A7 b;have k:=hid b;have i:=hid g;clear b g)
   | (go_at_call 138;refine(p.out _).mono ?_;clear p;rintro e B⟨D,rfl,a,f⟩;have q:=A7 a;have j:=hid a;have l:=hid f;clear a f))
  go_ret;exact⟨_,rfl,(A.out _ _ k.out j.out).1 y.out,i.out.trans (l.out.mono i.out.size)⟩
 .have n:((c:Int) - (d:Int)==0)=false:=beq_eq_false_iff_ne.2 (by omega)
  have m:((c:Int) - (d:Int)==1)=true:=beq_iff_eq.2 (by omega);have y:=hid hc;clear hc;go_enter func141,ntmps141
  go_wp2_with (first
   | (go_at_call 138;refine(o.out _).mono ?_;clear o;rintro e C⟨E,rfl,b,g⟩;have r:=A7 b;have k:=hid b;have i:=hid g;clear b g)
   | (go_at_call 138;refine(p.out _).mono ?_;clear p;rintro e B⟨D,rfl,a,f⟩;have q:=A7 a;have j:=hid a;have l:=hid f;clear a f))
  go_ret;exact⟨_,rfl,(A.out _ _ k.out j.out).2.1 y.out,i.out.trans (l.out.mono i.out.size)⟩
 .have n:((c:Int) - (d:Int)==0)=false:=beq_eq_false_iff_ne.2 (by omega)
  have m:((c:Int) - (d:Int)==1)=false:=beq_eq_false_iff_ne.2 (by omega);have y:=hid hc;clear hc;go_enter func141,ntmps141
  go_wp2_with (first
   | (go_at_call 138;refine(o.out _).mono ?_;clear o;rintro e C⟨E,rfl,b,g⟩;have r:=A7 b;have k:=hid b;have i:=hid g;clear b g)
   | (go_at_call 138;refine(p.out _).mono ?_;clear p;rintro e B⟨D,rfl,a,f⟩;have q:=A7 a;have j:=hid a;have l:=hid f;clear a f))
  go_ret;exact⟨_,rfl,(A.out _ _ k.out j.out).2.2 y.out,i.out.trans (l.out.mono i.out.size)⟩
def C0B(n:Nat)(w:W_)(e:Ending)(w':W_):Prop:=e=.returned (.int .u64 n)/\w=w'
theorem B7A(x:Nat)(a:x<18446744073709551616):18446744073709551615 ^^^ x=18446744073709551615 - x:=by
 have h:=BitVec.toNat_not (x:=BitVec.ofNat 64 x);rw[BitVec.not_def,BitVec.toNat_xor] at h;simp at h;rw[Nat.mod_eq_of_lt (by omega)] at h;exact h
theorem A4n(x y:Nat)(w:W_)(b:x<18446744073709551616)(a:y<18446744073709551616):Calls prog 223 #[.int .u64 x,.int .u64 y] w (C0B (x ||| y) w):=by
 go_enter func223,ntmps223;go_wp2;go_ret;refine⟨?_,rfl⟩;rw[←u64_or_nat x y b a]
 rfl
theorem B7B(x y:Nat)(w:W_)(a:x<18446744073709551616)(b:y<18446744073709551616):Calls prog 195 #[.int .u64 x,.int .u64 y] w (C0B (18446744073709551615 - x) w):=by
 go_enter func195,ntmps195;go_wp2;go_ret;refine⟨?_,rfl⟩
 have e:bits .xor .u64 IntKind.u64.max (x:Int)=((18446744073709551615 - x:Nat):Int):=by
  rw[show IntKind.u64.max=((18446744073709551615:Nat):Int) from rfl,u64_xor_nat _ _ (by decide) a,B7A x a]
 rw[←e]
 rfl
theorem A84(g f d c q p n m:Nat)(w:W_)(ha:P5 (g,f,d,c))(hb:P5 (q,p,n,m)):
 Calls prog 194 #[.agg #[.int .u64 g,.int .u64 f,.int .u64 d,.int .u64 c],.agg #[.int .u64 q,.int .u64 p,.int .u64 n,.int .u64 m],.func (.func 223) #[] #[]] w
  (M5 ((g ||| q),(f ||| p),(d ||| n),(c ||| m)) w):=by
 obtain⟨ad,ac,ab,aa⟩:=ha;obtain⟨Z,Y,X,V⟩:=hb;obtain⟨h,S⟩:∃r,r=(g ||| q):=⟨_,rfl⟩
 have M:=λW=>A4n g q W ad Z
 rw[←S] at M ⊢;have ai:=hid M;clear M S;obtain⟨s,R⟩:∃r,r=(f ||| p):=⟨_,rfl⟩
 have L:=λW=>A4n f p W ac Y
 rw[←R] at L ⊢;have ah:=hid L;clear L R;obtain⟨G,Q⟩:∃r,r=(d ||| n):=⟨_,rfl⟩
 have J:=λW=>A4n d n W ab X
 rw[←Q] at J ⊢;have ag:=hid J;clear J Q;obtain⟨N,P⟩:∃r,r=(c ||| m):=⟨_,rfl⟩
 have H:=λW=>A4n c m W aa V
 rw[←P] at H ⊢;have af:=hid H;clear H P;have B:=((J0.new w 112 #[.int .u64 g,.int .u64 f,.int .u64 d,.int .u64 c]).kept (br_.alloc (lr_ _) (.cells #[.int .u64 q,.int .u64 p,.int .u64 n,.int .u64 m] 112))).kept (br_.alloc (lr_ _) (.cells #[.int .u64 0,.int .u64 0,.int .u64 0,.int .u64 0] 112));have y:=(J0.new (w.alloc (.cells #[.int .u64 g,.int .u64 f,.int .u64 d,.int .u64 c] 112)) 112 #[.int .u64 q,.int .u64 p,.int .u64 n,.int .u64 m]).kept (br_.alloc (lr_ _) (.cells #[.int .u64 0,.int .u64 0,.int .u64 0,.int .u64 0] 112));have l:=J0.new ((w.alloc (.cells #[.int .u64 g,.int .u64 f,.int .u64 d,.int .u64 c] 112)).alloc (.cells #[.int .u64 q,.int .u64 p,.int .u64 n,.int .u64 m] 112)) 112 #[.int .u64 0,.int .u64 0,.int .u64 0,.int .u64 0];have A:(w.alloc (.cells #[.int .u64 g,.int .u64 f,.int .u64 d,.int .u64 c] 112)).heap.size=w.heap.size+1:=by simp
 have z:((w.alloc (.cells #[.int .u64 g,.int .u64 f,.int .u64 d,.int .u64 c] 112)).alloc (.cells #[.int .u64 q,.int .u64 p,.int .u64 n,.int .u64 m] 112)).heap.size=w.heap.size+1+1:=by simp
 rw[A] at y;rw[z] at l;have HA:=hid B;have HB:=hid y;have HZ:=hid l;have aj:Hid (∀o o' O:Obj,Below w.heap.size w (((w.alloc o).alloc o').alloc O)):=hid λo o' O=>(ba_.alloc (by simp) _).alloc (by simp;omega) _
 clear B y l A z;go_enter func194,ntmps194;go_wp2
 go_loopw [8] (λv8 wr=>∃(k F E D C:Nat),k<=4/\v8=.int .i64 k/\Hid (F=(if 0<k then h else g)/\E=(if 1<k then s else f)/\D=(if 2<k then G else d)/\C=(if 3<k then N else c)) /\
  Hid (J0 wr w.heap.size 112 #[.int .u64 F,.int .u64 E,.int .u64 D,.int .u64 C])/\Hid (J0 wr (w.heap.size+1) 112 #[.int .u64 q,.int .u64 p,.int .u64 n,.int .u64 m])/\Hid (J0 wr (w.heap.size+1+1) 112 #[.int .u64 0,.int .u64 0,.int .u64 0,.int .u64 0])/\Hid (Below w.heap.size w wr)) (λi _=>4 - (intOf i).toNat)
 case atStart=>exact⟨0,g,f,d,c,by omega,rfl,hid ⟨rfl,rfl,rfl,rfl⟩,HA,HB,HZ,hid (aj.out _ _ _)⟩
 case round =>
  obtain⟨k,F,E,D,C,hk,rfl,hc,B,y,l,j⟩:=hrel;have b:=hc.out;have h4:k=0\/k=1\/k=2\/k=3\/k=4:=by omega
  clear hc;obtain⟨⟨x0,x1,x2,x3⟩,y0,y1,y2,y3⟩:=V1 B.out;obtain⟨⟨z0,z1,z2,z3⟩,_⟩:=V1 y.out;obtain⟨⟨t0,t1,t2,t3⟩,u0,u1,u2,u3⟩:=V1 l.out;rcases h4 with rfl|rfl|rfl|rfl|rfl
  .have a:F=g/\E=f/\D=d/\C=c:=by simpa using b
   obtain rfl:=a.1.symm;obtain rfl:=a.2.1.symm;obtain rfl:=a.2.2.1.symm;obtain rfl:=a.2.2.2.symm;clear a;clear b;go_wp2_with fail
   go_region_with (first
    | (go_at_call 223;refine(ai.out _).mono ?_;rintro e T⟨rfl,rfl⟩))
   all_goals (
    go_wp2;go_roundw
    case rel =>
     refine⟨1,h,f,d,c,by omega,by first | rfl | go_num,hid (by simp),hid ?_,hid ?_,hid ?_,hid ?_⟩
     .exact B.out.drew.set_ 0 _
     .exact(y.out.drew).far (by show _≠w.heap.size;omega) _
     .exact(l.out.drew).far (by show _≠w.heap.size;omega) _
     .exact j.out.drew.setCell (lr_ _) _
    case measure=>simp[intOf])
  .have a:F=h/\E=f/\D=d/\C=c:=by simpa using b
   obtain rfl:=a.1.symm;obtain rfl:=a.2.1.symm;obtain rfl:=a.2.2.1.symm;obtain rfl:=a.2.2.2.symm;clear a;clear b;go_wp2_with fail
   go_region_with (first
    | (go_at_call 223;refine(ah.out _).mono ?_;rintro e T⟨rfl,rfl⟩))
   all_goals (
    go_wp2;go_roundw
    case rel =>
     refine⟨2,h,s,d,c,by omega,by first | rfl | go_num,hid (by simp),hid ?_,hid ?_,hid ?_,hid ?_⟩
     .exact B.out.drew.set_ 1 _
     .exact(y.out.drew).far (by show _≠w.heap.size;omega) _
     .exact(l.out.drew).far (by show _≠w.heap.size;omega) _
     .exact j.out.drew.setCell (lr_ _) _
    case measure=>simp[intOf])
  .have a:F=h/\E=s/\D=d/\C=c:=by simpa using b
   obtain rfl:=a.1.symm;obtain rfl:=a.2.1.symm;obtain rfl:=a.2.2.1.symm;obtain rfl:=a.2.2.2.symm;clear a;clear b;go_wp2_with fail
   go_region_with (first
    | (go_at_call 223;refine(ag.out _).mono ?_;rintro e T⟨rfl,rfl⟩))
   all_goals (
    go_wp2;go_roundw
    case rel =>
     refine⟨3,h,s,G,c,by omega,by first | rfl | go_num,hid (by simp),hid ?_,hid ?_,hid ?_,hid ?_⟩
     .exact B.out.drew.set_ 2 _
     .exact(y.out.drew).far (by show _≠w.heap.size;omega) _
     .exact(l.out.drew).far (by show _≠w.heap.size;omega) _
     .exact j.out.drew.setCell (lr_ _) _
    case measure=>simp[intOf])
  .have a:F=h/\E=s/\D=G/\C=c:=by simpa using b
   obtain rfl:=a.1.symm;obtain rfl:=a.2.1.symm;obtain rfl:=a.2.2.1.symm;obtain rfl:=a.2.2.2.symm;clear a;clear b;go_wp2_with fail
   go_region_with (first
    | (go_at_call 223;refine(af.out _).mono ?_;rintro e T⟨rfl,rfl⟩))
   all_goals (
    go_wp2;go_roundw
    case rel =>
     refine⟨4,h,s,G,N,by omega,by first | rfl | go_num,hid (by simp),hid ?_,hid ?_,hid ?_,hid ?_⟩
     .exact B.out.drew.set_ 3 _
     .exact(y.out.drew).far (by show _≠w.heap.size;omega) _
     .exact(l.out.drew).far (by show _≠w.heap.size;omega) _
     .exact j.out.drew.setCell (lr_ _) _
    case measure=>simp[intOf])
  .have a:F=h/\E=s/\D=G/\C=N:=by simpa using b
   obtain rfl:=a.1.symm;obtain rfl:=a.2.1.symm;obtain rfl:=a.2.2.1.symm;obtain rfl:=a.2.2.2.symm;clear a b;go_wp2;refine bodyPost_ret (v:=C6 (h,s,G,N)) ?_ rfl (M5.of ?_)
   .have h4:=(V1 (N3 l.out (.int .u64 h) (.int .u64 s) (.int .u64 G) (.int .u64 N))).1
    obtain⟨h0,h1,h2,h3⟩:=h4;simp[results,results194,go_sem,C6,h0,h1,h2,h3]
   .have t:w.heap.size<=w.heap.size+1+1:=by omega
    exact(((j.out.setCell t _).setCell t _).setCell t _).setCell t _
theorem B5X(g f d c F E D C:Nat)(w:W_)(ha:P5 (g,f,d,c))(hb:P5 (F,E,D,C)):
 Calls prog 194 #[.agg #[.int .u64 g,.int .u64 f,.int .u64 d,.int .u64 c],.agg #[.int .u64 F,.int .u64 E,.int .u64 D,.int .u64 C],.func (.func 195) #[] #[]] w
  (M5 ((18446744073709551615 - g),(18446744073709551615 - f),(18446744073709551615 - d),(18446744073709551615 - c)) w):=by
 obtain⟨ad,ac,ab,aa⟩:=ha;obtain⟨Z,Y,X,V⟩:=hb;obtain⟨h,S⟩:∃r,r=(18446744073709551615 - g):=⟨_,rfl⟩
 have M:=λW=>B7B g F W ad Z
 rw[←S] at M ⊢;have ai:=hid M;clear M S;obtain⟨m,R⟩:∃r,r=(18446744073709551615 - f):=⟨_,rfl⟩
 have L:=λW=>B7B f E W ac Y
 rw[←R] at L ⊢;have ah:=hid L;clear L R;obtain⟨G,Q⟩:∃r,r=(18446744073709551615 - d):=⟨_,rfl⟩
 have J:=λW=>B7B d D W ab X
 rw[←Q] at J ⊢;have ag:=hid J;clear J Q;obtain⟨N,P⟩:∃r,r=(18446744073709551615 - c):=⟨_,rfl⟩
 have H:=λW=>B7B c C W aa V
 rw[←P] at H ⊢;have af:=hid H;clear H P;have t:=((J0.new w 112 #[.int .u64 g,.int .u64 f,.int .u64 d,.int .u64 c]).kept (br_.alloc (lr_ _) (.cells #[.int .u64 F,.int .u64 E,.int .u64 D,.int .u64 C] 112))).kept (br_.alloc (lr_ _) (.cells #[.int .u64 0,.int .u64 0,.int .u64 0,.int .u64 0] 112));have p:=(J0.new (w.alloc (.cells #[.int .u64 g,.int .u64 f,.int .u64 d,.int .u64 c] 112)) 112 #[.int .u64 F,.int .u64 E,.int .u64 D,.int .u64 C]).kept (br_.alloc (lr_ _) (.cells #[.int .u64 0,.int .u64 0,.int .u64 0,.int .u64 0] 112));have l:=J0.new ((w.alloc (.cells #[.int .u64 g,.int .u64 f,.int .u64 d,.int .u64 c] 112)).alloc (.cells #[.int .u64 F,.int .u64 E,.int .u64 D,.int .u64 C] 112)) 112 #[.int .u64 0,.int .u64 0,.int .u64 0,.int .u64 0];have s:(w.alloc (.cells #[.int .u64 g,.int .u64 f,.int .u64 d,.int .u64 c] 112)).heap.size=w.heap.size+1:=by simp
 have q:((w.alloc (.cells #[.int .u64 g,.int .u64 f,.int .u64 d,.int .u64 c] 112)).alloc (.cells #[.int .u64 F,.int .u64 E,.int .u64 D,.int .u64 C] 112)).heap.size=w.heap.size+1+1:=by simp
 rw[s] at p;rw[q] at l;have HA:=hid t;have HB:=hid p;have HZ:=hid l;have aj:Hid (∀o o' O:Obj,Below w.heap.size w (((w.alloc o).alloc o').alloc O)):=hid λo o' O=>(ba_.alloc (by simp) _).alloc (by simp;omega) _
 clear t p l s q;go_enter func194,ntmps194;go_wp2
 go_loopw [8] (λv8 wr=>∃(k B A z y:Nat),k<=4/\v8=.int .i64 k/\Hid (B=(if 0<k then h else g)/\A=(if 1<k then m else f)/\z=(if 2<k then G else d)/\y=(if 3<k then N else c)) /\
  Hid (J0 wr w.heap.size 112 #[.int .u64 B,.int .u64 A,.int .u64 z,.int .u64 y])/\Hid (J0 wr (w.heap.size+1) 112 #[.int .u64 F,.int .u64 E,.int .u64 D,.int .u64 C])/\Hid (J0 wr (w.heap.size+1+1) 112 #[.int .u64 0,.int .u64 0,.int .u64 0,.int .u64 0])/\Hid (Below w.heap.size w wr)) (λi _=>4 - (intOf i).toNat)
 case atStart=>exact⟨0,g,f,d,c,by omega,rfl,hid ⟨rfl,rfl,rfl,rfl⟩,HA,HB,HZ,hid (aj.out _ _ _)⟩
 case round =>
  obtain⟨k,B,A,z,y,hk,rfl,hc,t,p,l,j⟩:=hrel;have b:=hc.out;have h4:k=0\/k=1\/k=2\/k=3\/k=4:=by omega
  clear hc;obtain⟨⟨x0,x1,x2,x3⟩,y0,y1,y2,y3⟩:=V1 t.out;obtain⟨⟨z0,z1,z2,z3⟩,_⟩:=V1 p.out;obtain⟨⟨t0,t1,t2,t3⟩,u0,u1,u2,u3⟩:=V1 l.out;rcases h4 with rfl|rfl|rfl|rfl|rfl
  .have a:B=g/\A=f/\z=d/\y=c:=by simpa using b
   obtain rfl:=a.1.symm;obtain rfl:=a.2.1.symm;obtain rfl:=a.2.2.1.symm;obtain rfl:=a.2.2.2.symm;clear a;clear b;go_wp2_with fail
   go_region_with (first
    | (go_at_call 195;refine(ai.out _).mono ?_;rintro e T⟨rfl,rfl⟩))
   all_goals (
    go_wp2;go_roundw
    case rel =>
     refine⟨1,h,f,d,c,by omega,by first | rfl | go_num,hid (by simp),hid ?_,hid ?_,hid ?_,hid ?_⟩
     .exact t.out.drew.set_ 0 _
     .exact(p.out.drew).far (by show _≠w.heap.size;omega) _
     .exact(l.out.drew).far (by show _≠w.heap.size;omega) _
     .exact j.out.drew.setCell (lr_ _) _
    case measure=>simp[intOf])
  .have a:B=h/\A=f/\z=d/\y=c:=by simpa using b
   obtain rfl:=a.1.symm;obtain rfl:=a.2.1.symm;obtain rfl:=a.2.2.1.symm;obtain rfl:=a.2.2.2.symm;clear a;clear b;go_wp2_with fail
   go_region_with (first
    | (go_at_call 195;refine(ah.out _).mono ?_;rintro e T⟨rfl,rfl⟩))
   all_goals (
    go_wp2;go_roundw
    case rel =>
     refine⟨2,h,m,d,c,by omega,by first | rfl | go_num,hid (by simp),hid ?_,hid ?_,hid ?_,hid ?_⟩
     .exact t.out.drew.set_ 1 _
     .exact(p.out.drew).far (by show _≠w.heap.size;omega) _
     .exact(l.out.drew).far (by show _≠w.heap.size;omega) _
     .exact j.out.drew.setCell (lr_ _) _
    case measure=>simp[intOf])
  .have a:B=h/\A=m/\z=d/\y=c:=by simpa using b
   obtain rfl:=a.1.symm;obtain rfl:=a.2.1.symm;obtain rfl:=a.2.2.1.symm;obtain rfl:=a.2.2.2.symm;clear a;clear b;go_wp2_with fail
   go_region_with (first
    | (go_at_call 195;refine(ag.out _).mono ?_;rintro e T⟨rfl,rfl⟩))
   all_goals (
    go_wp2;go_roundw
    case rel =>
     refine⟨3,h,m,G,c,by omega,by first | rfl | go_num,hid (by simp),hid ?_,hid ?_,hid ?_,hid ?_⟩
     .exact t.out.drew.set_ 2 _
     .exact(p.out.drew).far (by show _≠w.heap.size;omega) _
     .exact(l.out.drew).far (by show _≠w.heap.size;omega) _
     .exact j.out.drew.setCell (lr_ _) _
    case measure=>simp[intOf])
  .have a:B=h/\A=m/\z=G/\y=c:=by simpa using b
   obtain rfl:=a.1.symm;obtain rfl:=a.2.1.symm;obtain rfl:=a.2.2.1.symm;obtain rfl:=a.2.2.2.symm;clear a;clear b;go_wp2_with fail
   go_region_with (first
    | (go_at_call 195;refine(af.out _).mono ?_;rintro e T⟨rfl,rfl⟩))
   all_goals (
    go_wp2;go_roundw
    case rel =>
     refine⟨4,h,m,G,N,by omega,by first | rfl | go_num,hid (by simp),hid ?_,hid ?_,hid ?_,hid ?_⟩
     .exact t.out.drew.set_ 3 _
     .exact(p.out.drew).far (by show _≠w.heap.size;omega) _
     .exact(l.out.drew).far (by show _≠w.heap.size;omega) _
     .exact j.out.drew.setCell (lr_ _) _
    case measure=>simp[intOf])
  .have a:B=h/\A=m/\z=G/\y=N:=by simpa using b
   obtain rfl:=a.1.symm;obtain rfl:=a.2.1.symm;obtain rfl:=a.2.2.1.symm;obtain rfl:=a.2.2.2.symm;clear a b;go_wp2;refine bodyPost_ret (v:=C6 (h,m,G,N)) ?_ rfl (M5.of ?_)
   .have h4:=(V1 (N3 l.out (.int .u64 h) (.int .u64 m) (.int .u64 G) (.int .u64 N))).1
    obtain⟨h0,h1,h2,h3⟩:=h4;simp[results,results194,go_sem,C6,h0,h1,h2,h3]
   .have n:w.heap.size<=w.heap.size+1+1:=by omega
    exact(((j.out.setCell n _).setCell n _).setCell n _).setCell n _
theorem A50(j i h g f d c b:Nat)(w:W_)(r:P5 (j,i,h,g))(q:P5 (f,d,c,b)):
 Calls prog 218 #[.agg #[.int .u64 j,.int .u64 i,.int .u64 h,.int .u64 g],.agg #[.int .u64 f,.int .u64 d,.int .u64 c,.int .u64 b]] w (M5 (M9 (j,i,h,g) (f,d,c,b)) w):=by
 have t:=hid λW=>A84 j i h g f d c b W r q
 have D:Hid (((j ||| f),(i ||| d),(h ||| c),(g ||| b))=M9 (j,i,h,g) (f,d,c,b)):=hid rfl;clear r q;go_enter func218,ntmps218
 go_wp2_with (go_at_call 194;refine(t.out _).mono ?_;rintro e P⟨n,m,l,k,rfl,p,a⟩;have E:=hid p;have s:=hid ((J0.new3 _ _ _ _ _).kept a);have o:=hid ((B9E _ _ _ _).trans (a.mono (B9r _ _ _ _)));clear p a t;obtain⟨⟨O,N,M,L⟩,J,H,G,F⟩:=V1 s.out)
 refine bodyPost_ret (v:=C6 (n,m,l,k)) ?_ rfl ?_
 .have y:=(V1 (N3 s.out (.int .u64 n) (.int .u64 m) (.int .u64 l) (.int .u64 k))).1
  obtain⟨C,B,A,z⟩:=y;simp[results,results218,go_sem,C6,C,B,A,z]
 .refine⟨n,m,l,k,rfl,by rw[E.out,D.out],?_⟩
  exact A3B o.out (by omega) _ _ _ _
theorem B18(f d c b:Nat)(w:W_)(g:P5 (f,d,c,b)):
 Calls prog 171 #[.agg #[.int .u64 f,.int .u64 d,.int .u64 c,.int .u64 b]] w (M5 (p8 (f,d,c,b)) w):=by
 have o:=hid λW=>B5X f d c b f d c b W g g
 have y:Hid (((18446744073709551615 - f),(18446744073709551615 - d),(18446744073709551615 - c),(18446744073709551615 - b))=p8 (f,d,c,b)):=hid rfl;clear g;go_enter func171,ntmps171
 go_wp2_with (go_at_call 194;refine(o.out _).mono ?_;rintro e J⟨k,j,i,h,rfl,m,a⟩;have z:=hid m;have n:=hid ((J0.new2 _ _ _ _).kept a);have l:=hid ((B0z _ _ _).trans (a.mono (B9s _ _ _)));clear m a o;obtain⟨⟨H,G,F,E⟩,D,C,B,A⟩:=V1 n.out)
 refine bodyPost_ret (v:=C6 (k,j,i,h)) ?_ rfl ?_
 .have p:=(V1 (N3 n.out (.int .u64 k) (.int .u64 j) (.int .u64 i) (.int .u64 h))).1
  obtain⟨t,s,r,q⟩:=p;simp[results,results171,go_sem,C6,t,s,r,q]
 .refine⟨k,j,i,h,rfl,by rw[z.out,y.out],?_⟩
  exact A3B l.out (by omega) _ _ _ _
theorem B2B(w:W_):Calls prog 139 #[] w (M5 A2r w):=by
 have t:=hid λW=>B6O ⟨#[10]⟩ W (by decide)
 have p:Hid (∀g f d c,(g,f,d,c)=ofL [10] zc->P5 (g,f,d,c)):=hid (by rintro g f d c h;rw[h];exact A7R _ _ N6);go_enter func139,ntmps139
 go_wp2_with (first
  | (go_at_call 172;refine(t.out _).mono ?_;clear t;rintro e Q⟨g,f,d,c,rfl,s,b⟩;have i:=hid s;have D:=hid ((J0.new _ _ _).kept b);have k:=hid (ba_.trans (b.mono (by simp)));clear s b)
  | (go_at_call 171;refine(B18 g f d c _ (p.out _ _ _ _ i.out)).mono ?_;rintro e P⟨o,n,m,l,rfl,r,a⟩;have E:=hid r;have j:=hid (D.out.kept a);have q:=hid (k.out.trans (a.mono k.out.size));clear r a;obtain⟨⟨O,N,M,L⟩,J,H,G,F⟩:=V1 j.out))
 refine bodyPost_ret (v:=C6 (o,n,m,l)) ?_ rfl ?_
 .have y:=(V1 (N3 j.out (.int .u64 o) (.int .u64 n) (.int .u64 m) (.int .u64 l))).1
  obtain⟨C,B,A,z⟩:=y;simp[results,results139,go_sem,C6,C,B,A,z]
 .refine⟨o,n,m,l,rfl,by rw[E.out,i.out];rfl,?_⟩
  exact A3B q.out (lr_ _) _ _ _ _
def Bld(B:Nat)(l:List U_)(w:W_):Prop:=Lib.IsBuilder 32 5 B B (Lib.byteCells l) w
theorem Bld.kept{B:Nat}{l:List U_}{w w':W_}(h:Bld B l w)(a:Below w.heap.size w w'):Bld B l w':=by
 have d:w.grownBy w' none:=⟨a.os,a.tape,a.output,a.size,λi c _=>a.block i c⟩
 have key:∀p,Lib.BuilderAt 32 5 B B p (Lib.byteCells l) w->Lib.BuilderAt 32 5 B B p (Lib.byteCells l) w':=by
  rintro p⟨j,v,b,g,f⟩;exact⟨j,v,(a.block B (Array.getElem?_eq_some_iff.1 b).1).trans b,g.kept d (by cases hv:v.ownBlock <;> simp),f⟩
 exact h.elim (λh=>.inl (key _ h)) (λh=>.inr (key _ h))
theorem Bld.lt{B:Nat}{l:List U_}{w:W_}(h:Bld B l w):B<w.heap.size:=h.elim (λh=>h.lt) (λh=>h.lt)
theorem Bld.fresh(w:W_):Bld w.heap.size [] (w.alloc (.cells #[.pointer none,.slice none 0 0] 32)):=Lib.fresh_isBuilder _ _ _
theorem Bld.byte{B:Nat}{l:List U_}{w:W_}(c:Nat)(a:c<256)(h:Bld B l w)(g:l.length<100000):
 Calls prog 105 #[.pointer (some ⟨B,0,none⟩),.int .u8 c] w (λe w'=>e=.returned .nilIface/\Bld B (l++[UInt8.ofNat c]) w'/\Below B w w'):=by
 refine(A9X B B (Lib.byteCells l) (c:Int) w h (by simp[Lib.byteCells];omega) (by have:=h.lt;omega)).mono ?_;rintro e w'⟨f,d,b⟩;refine⟨f,.inr ?_,b⟩;have:Lib.byteCells (l++[UInt8.ofNat c])=Lib.byteCells l++[.int .u8 c]:=by simp[Lib.byteCells,Nat.mod_eq_of_lt a]
 rw[this];exact d
theorem Bld.str{B:Nat}{l:List U_}{w:W_}(s:B_)(h:Bld B l w)(f:l.length<100000)(d:s.size<100000):
 Calls prog 9 #[.pointer (some ⟨B,0,none⟩),.string s] w (λe w'=>e=.returned (.tuple #[.int .i64 s.size,.nilIface])/\Bld B (l++s.data.toList) w'/\Below B w w'):=by
 refine(A6L B B (Lib.byteCells l) s w h (by simp[Lib.byteCells];omega) (by have:=h.lt;omega)).mono ?_;rintro e w'⟨c,b,a⟩;refine⟨c,.inr ?_,a⟩;have:Lib.byteCells (l++s.data.toList)=Lib.byteCells l++Lib.strCells s:=by simp[Lib.byteCells,Lib.strCells]
 rw[this];exact b
theorem Bld.text{B:Nat}{l:List U_}{w:W_}(h:Bld B l w):
 Calls prog 11 #[.pointer (some ⟨B,0,none⟩)] w (λe w'=>e=.returned (.string ⟨l.toArray⟩)/\Below B w w'):=A7F B B l w h (by have:=h.lt;omega)
def A0L(w:W_)(d c b a:Nat)(w':W_):Prop:=J0 w' w.heap.size 112 #[.int .u64 d,.int .u64 c,.int .u64 b,.int .u64 a]/\Below w.heap.size w w'
theorem A0L.new(w:W_)(d c b a:Nat):A0L w d c b a (w.alloc (.cells #[.int .u64 d,.int .u64 c,.int .u64 b,.int .u64 a] 112)):=⟨J0.new _ _ _,ba_⟩
theorem A0L.kept{w a b:W_}{i g f d:Nat}(h:A0L w i g f d a)(c:Below a.heap.size a b):A0L w i g f d b:=⟨h.1.kept c,h.2.trans (c.mono h.2.size)⟩
theorem A0L.below{w b a:W_}{i g f d B:Nat}(h:A0L w i g f d b)(j:w.heap.size<B)(c:Below B b a):A0L w i g f d a:=⟨h.1.below c j,h.2.trans (c.mono (by omega))⟩
theorem A0L.cells{w a:W_}{f d c b:Nat}(h:A0L w f d c b a):
 a.cell? ⟨w.heap.size,0,none⟩=some (.int .u64 f)/\a.cell? ⟨w.heap.size,1,none⟩=some (.int .u64 d)/\a.cell? ⟨w.heap.size,2,none⟩=some (.int .u64 c)/\a.cell? ⟨w.heap.size,3,none⟩=some (.int .u64 b):=(V1 h.1).1
theorem B8C(f d c a b:Nat)(w:W_)(r:Bool)(g:P5 (f,d,c,a))(i:b<256)(h:has (f,d,c,a) b=r):
 Calls prog 140 #[.agg #[.int .u64 f,.int .u64 d,.int .u64 c,.int .u64 a],.int .u8 b] w (λe w'=>e=.returned (.bool r)/\Below w.heap.size w w'):=by
 refine(A7x f d c a b w g i).mono ?_;rintro e w'⟨k,j⟩;exact⟨by rw[k,h],j⟩
theorem B58(f d c a:Nat)(w:W_)(i:P5 (f,d,c,a))(m:B6 (f,d,c,a)=1):
 Calls prog 104 #[.agg #[.int .u64 f,.int .u64 d,.int .u64 c,.int .u64 a]] w (L5 (F6 (f,d,c,a)) w):=by
 have z:Hid (F6 (f,d,c,a)=C4 (R7 (f,d,c,a) 0)):=hid (by unfold F6;rw[if_pos m]);have l:=(F8 m).1
 have B:Hid (∀W,Calls prog 114 #[.agg #[.int .u64 f,.int .u64 d,.int .u64 c,.int .u64 a]] W (λe w'=>∃g:Nat,e=.returned (.tuple #[.int .u8 g,.bool true])/\g=R7 (f,d,c,a) 0/\g<256/\Below W.heap.size W w')):=hid λW =>
  (A5v f d c a W i).mono (by
    rintro e w' (⟨b,y,G,t,r,q⟩|⟨_,h,_⟩)
    .exact⟨b,y,t,r,q⟩
    .exact absurd m h)
 have D:=hid (A0L.new w f d c a);clear m i l;go_enter func104,ntmps104
 go_wp2_with (first
  | (go_at_call 114;refine(B.out _).mono ?_;rintro e F⟨g,rfl,l,hlt,k⟩;have C:=hid l;have o:=hid (D.out.kept k);clear l k)
  | (go_at_call 138;refine(A53 g _ hlt).mono ?_;rintro e E⟨s,rfl,p,j⟩;have A:=hid p;have n:=hid (o.out.kept j);clear p j))
 go_ret;exact⟨s,rfl,by rw[A.out,z.out,C.out],n.out.2⟩
theorem B17(f d c a:Nat)(w:W_)(g:P5 (f,d,c,a))(i:B6 (f,d,c,a)≠1):
 Calls prog 114 #[.agg #[.int .u64 f,.int .u64 d,.int .u64 c,.int .u64 a]] w (λe w'=>e=.returned (.tuple #[.int .u8 0,.bool false])/\Below w.heap.size w w') :=
 (A5v f d c a w g).mono (by
   rintro e w' (⟨b,o,k,n,m,l⟩|⟨h,_,j⟩)
   .exact absurd k i
   .exact⟨h,j⟩)
theorem B2A(j i g f:Nat)(r:Bool)(l:r=true↔(j,i,g,f)=A2r)(w k:W_)(h:A0L w j i g f k):
 Calls prog 139 #[] k (λe w'=>∃d c b a:Nat,e=.returned (.agg #[.int .u64 d,.int .u64 c,.int .u64 b,.int .u64 a])/\S9 j i g f d c b a=r/\Hid (A0L w j i g f w')):=by
 refine(B2B k).mono ?_;rintro e w'⟨d,c,b,a,o,n,m⟩;refine⟨d,c,b,a,o,?_,hid (h.kept m)⟩;rw[Bool.eq_iff_iff,l,A5h,n]
theorem B3m(f d c a:Nat)(w:W_)(M:P5 (f,d,c,a))(h1:B6 (f,d,c,a)≠1)(B:(f,d,c,a)≠A2r):
 Calls prog 104 #[.agg #[.int .u64 f,.int .u64 d,.int .u64 c,.int .u64 a]] w (L5 (F6 (f,d,c,a)) w):=by
 have HT:Hid (F6 (f,d,c,a)=91::(Q2 (f,d,c,a) 0++[93])):=hid (by unfold F6;rw[if_neg h1,if_neg B]);have HO:=hid λW=>B17 f d c a W M h1
 have HD:=hid λw1 h=>B2A f d c a false (by simpa using B) w w1 (Hid.out h)
 have HH:=hid λb W r hb h=>B8C f d c a b W r M hb h
 have HE:=hid (A0L.new w f d c a)
 have hS:∀w',Hid (A0L w f d c a w')->(w'.cell? ⟨w.heap.size,0,none⟩=some (.int .u64 f)/\w'.cell? ⟨w.heap.size,1,none⟩=some (.int .u64 d)/\w'.cell? ⟨w.heap.size,2,none⟩=some (.int .u64 c)/\w'.cell? ⟨w.heap.size,3,none⟩=some (.int .u64 a)/\Hid (A0L w f d c a w')):=λw' h =>
  ⟨h.out.cells.1,h.out.cells.2.1,h.out.cells.2.2.1,h.out.cells.2.2.2,h⟩
 have HS:=hid hS;clear h1 B M hS;go_enter func104,ntmps104
 go_wp2_with (go_at_call 114;refine(HO.out _).mono ?_;rintro e w1⟨rfl,ac⟩;have P:=hid (HE.out.kept ac);clear ac HO HE;obtain⟨x0,x1,x2,x3⟩:=P.out.cells)
 have ax:Hid (A0L w f d c a w1.drew):=hid (P.out.kept br_.drew)
 go_region_held3 (λw'=>w'.cell? ⟨w.heap.size,0,none⟩=some (.int .u64 f)/\w'.cell? ⟨w.heap.size,1,none⟩=some (.int .u64 d)/\w'.cell? ⟨w.heap.size,2,none⟩=some (.int .u64 c)/\w'.cell? ⟨w.heap.size,3,none⟩=some (.int .u64 a)/\Hid (A0L w f d c a w'))
  (exact HS.out _ (by assumption))
  (first | (go_at_call 139;refine(HD.out _ (by assumption)).mono ?_;rintro e w2⟨d0,d1,d2,d3,rfl,aB,A⟩))
 have n:=A.out.1.lt;have HF:=hid (Bld.fresh w2);have ae:=hid (A.out.kept ((Below.refl _ w2).alloc (lr_ _) (.cells #[.pointer none,.slice none 0 0] 32)));clear A P ax HD x0 x1 x2 x3
 go_wp2_with (go_at_call 105;refine(Bld.byte 91 (by omega) HF.out (by simp)).mono ?_;rintro e w3⟨rfl,F,ab⟩;have aw:=hid F;have ay:=hid (ae.out.below n ab);clear F ab HF ae)
 go_loopw [6] (λv6 wr=>∃(k:Nat)(g:List U_),k<=256/\v6=.int .i64 k/\g.length<=9*k/\Hid (g++Q2 (f,d,c,a) k=Q2 (f,d,c,a) 0)/\Hid (Bld w2.heap.size (91::g) wr)/\Hid (A0L w f d c a wr)) (λi _=>256 - (intOf i).toNat)
 case atStart=>exact⟨0,[],by omega,rfl,by simp,hid rfl,aw,ay⟩
 case round =>
  obtain⟨k,g,hk,rfl,aL,HA,HB,Z⟩:=hrel;by_cases hlt:k<256
  .obtain⟨x0,x1,x2,x3⟩:=Z.out.cells
   have i1:(0:Int)<=k:=by omega
   have i2:(k:Int)<256:=by omega
   by_cases hhas:has (f,d,c,a) k=true
   .have HX:=hid hhas
    clear hhas
    go_wp2_with (go_at_call 140;refine(HH.out k _ true hlt HX.out).mono ?_;rintro e w4⟨rfl,t⟩;have Y:=hid (HB.out.kept t);have T:=hid (Z.out.kept t);clear t HB Z x0 x1 x2 x3)
    go_loopw [6] (λv6 wx=>∃m:Nat,k<=m/\m<=255/\v6=.int .i64 m/\Hid (top (f,d,c,a) m=top (f,d,c,a) k)/\Hid (Bld w2.heap.size (91::g) wx)/\Hid (A0L w f d c a wx)) (λi _=>255 - (intOf i).toNat)
    case atStart=>exact⟨k,by omega,by omega,rfl,hid rfl,Y,T⟩
    case round =>
     obtain⟨m,aq,hm,rfl,G,D,z⟩:=hrel;obtain⟨x0,x1,x2,x3⟩:=z.out.cells;have j1:(0:Int)<=m:=by omega
     have j2:(m:Int)<256:=by omega
     have H:=hid λW=>B6w k m W aq (by omega)
     have ap:=B1V k m
     have y:top (f,d,c,a) m=m->Hid ((g++spT k m)++Q2 (f,d,c,a) (m+1)=Q2 (f,d,c,a) 0):=λh=>hid (by
      rw[←HA.out,A0R hlt HX.out,←G.out,h,List.append_assoc])
     have p:(g++spT k m).length<=9*(m+1):=by rw[List.length_append];omega
     have j:(91::g).length<100000:=by simp;omega
     by_cases hgo:m<255
     .have j3:(m:Int)<255:=by omega
      cases hnx:has (f,d,c,a) (m+1) with
      | true =>
        have HN:=hid hnx;have au:=hid (B1S hgo hnx);clear hnx ap p
        go_wp2_with (go_at_call 140;refine(HH.out (m+1) _ true (by omega) HN.out).mono ?_;rintro e w6⟨rfl,l⟩)
        go_roundw
        case rel=>exact⟨m+1,by omega,by omega,by go_num,hid (by rw[←au.out,G.out]),hid (D.out.kept l),hid (z.out.kept l)⟩
        case measure=>simp[intOf];omega
      | false =>
        have HN:=hid hnx;have O:=y (A94 (by simp[hnx]));clear hnx y
        go_wp2_with (first
         | (go_at_call 140;refine(HH.out (m+1) _ false (by omega) HN.out).mono ?_;rintro e w6⟨rfl,l⟩;have az:=hid (D.out.kept l);have S:=hid (z.out.kept l);clear l)
         | (go_at_call 141;refine(H.out _).mono ?_;rintro e w7⟨s,rfl,L,q⟩;have J:s.size<100000:=(by rw[t6,L];omega);have N:=hid L;have X:=hid (az.out.kept q);have R:=hid (S.out.kept q);clear L q)
         | (go_at_call 9;refine(Bld.str s X.out j J).mono ?_;rintro e w8⟨rfl,C,o⟩;have V:=hid C;have Q:=hid (R.out.below n o);clear C o))
        go_roundw
        case rel=>exact⟨m+1,g++spT k m,by omega,by go_num,p,O,hid (by rw[←N.out];exact V.out),Q⟩
        case measure=>simp[intOf];omega
     .obtain rfl:m=255:=by omega
      have O:=y (A94 (by omega));clear y
      go_wp2_with (first
       | (go_at_call 141;refine(H.out _).mono ?_;rintro e w7⟨s,rfl,L,q⟩;have J:s.size<100000:=(by rw[t6,L];omega);have N:=hid L;have X:=hid (D.out.kept q);have R:=hid (z.out.kept q);clear L q)
       | (go_at_call 9;refine(Bld.str s X.out j J).mono ?_;rintro e w8⟨rfl,C,o⟩;have V:=hid C;have Q:=hid (R.out.below n o);clear C o))
      go_roundw
      case rel=>exact⟨256,g++spT k 255,by omega,by go_num,p,O,hid (by rw[←N.out];exact V.out),Q⟩
      case measure=>simp[intOf];omega
   .have HX:Hid (has (f,d,c,a) k=false):=hid (by simpa using hhas)
    clear hhas
    go_wp2_with (go_at_call 140;refine(HH.out k _ false hlt HX.out).mono ?_;rintro e w4⟨rfl,t⟩;have Y:=hid (HB.out.kept t);have T:=hid (Z.out.kept t);clear t)
    go_roundw
    case rel=>exact⟨k+1,g,by omega,by go_num,by omega,hid (by rw[←HA.out,A15 hlt HX.out]),Y,T⟩
    case measure=>simp[intOf];omega
  .obtain rfl:k=256:=by omega
   have hd:decide ((256:Int)<256)=false:=by simp
   have HA':Hid (g=Q2 (f,d,c,a) 0):=hid (by rw[←HA.out,A2Y (lr_ _),List.append_nil]);have j:(91::g).length<100000:=by simp;omega
   clear HA
   go_wp2_with (first
    | (go_at_call 105;refine(Bld.byte 93 (by omega) HB.out j).mono ?_;rintro e w5⟨rfl,E,aa⟩;have D:=hid E;have z:=hid (Z.out.below n aa);clear E aa HB Z)
    | (go_at_call 11;refine(Bld.text D.out).mono ?_;rintro e w6⟨rfl,l⟩;have S:=hid (z.out.below n l);clear l))
   go_ret;exact⟨_,rfl,by rw[HT.out,←HA'.out],S.out.2⟩
theorem B59(d c b a:Nat)(w:W_)(g:P5 (d,c,b,a))(m:B6 (d,c,b,a)≠1)(f:(d,c,b,a)=A2r):
 Calls prog 104 #[.agg #[.int .u64 d,.int .u64 c,.int .u64 b,.int .u64 a]] w (L5 (F6 (d,c,b,a)) w):=by
 have r:Hid (F6 (d,c,b,a)=[46]):=hid (by unfold F6;rw[if_neg m,if_pos f]);have p:=hid λW=>B17 d c b a W g m
 have y:=hid λl h=>B2A d c b a true (by simpa using f) w l (Hid.out h)
 have q:=hid (A0L.new w d c b a)
 have o:∀w',Hid (A0L w d c b a w')->(w'.cell? ⟨w.heap.size,0,none⟩=some (.int .u64 d)/\w'.cell? ⟨w.heap.size,1,none⟩=some (.int .u64 c)/\w'.cell? ⟨w.heap.size,2,none⟩=some (.int .u64 b)/\w'.cell? ⟨w.heap.size,3,none⟩=some (.int .u64 a)/\Hid (A0L w d c b a w')):=λw' h =>
  ⟨h.out.cells.1,h.out.cells.2.1,h.out.cells.2.2.1,h.out.cells.2.2.2,h⟩
 have s:=hid o;clear m f g o;go_enter func104,ntmps104
 go_wp2_with (go_at_call 114;refine(p.out _).mono ?_;rintro e l⟨rfl,j⟩;have k:=hid (q.out.kept j);clear j p q;obtain⟨C,B,A,z⟩:=k.out.cells)
 have t:Hid (A0L w d c b a l.drew):=hid (k.out.kept br_.drew)
 go_region_held3 (λw'=>w'.cell? ⟨w.heap.size,0,none⟩=some (.int .u64 d)/\w'.cell? ⟨w.heap.size,1,none⟩=some (.int .u64 c)/\w'.cell? ⟨w.heap.size,2,none⟩=some (.int .u64 b)/\w'.cell? ⟨w.heap.size,3,none⟩=some (.int .u64 a)/\Hid (A0L w d c b a w'))
  (exact s.out _ (by assumption))
  (first | (go_at_call 139;refine(y.out _ (by assumption)).mono ?_;rintro e D⟨H,G,F,E,rfl,n,i⟩))
 go_wp2_with fail;go_ret;exact⟨_,rfl,by rw[r.out],i.out.2⟩
theorem B6A(d c b a:Nat)(w:W_)(f:P5 (d,c,b,a)):
 Calls prog 104 #[.agg #[.int .u64 d,.int .u64 c,.int .u64 b,.int .u64 a]] w (L5 (F6 (d,c,b,a)) w):=by
 by_cases h1:B6 (d,c,b,a)=1
 .exact B58 d c b a w f h1
 .by_cases h2:(d,c,b,a)=A2r
  .exact B59 d c b a w f h1 h2
  .exact B3m d c b a w f h1 h2
