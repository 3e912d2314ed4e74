import Derived.Test.YthhcpbfgoofppaaGreatDoorGPu
import Derived.Test.YthhcpbfgoofppaaGreatDoorGRb
import Derived.Test.YthhcpbfgoofppaaGreatDoorGRdrD
import Derived.Test.YthhcpbfgoofppaaGreatDoorHPgText
set_option linter.unusedVariables false
set_option linter.unusedSimpArgs false
open Wf
set_option maxRecDepth 100000
set_option maxHeartbeats 4000000
open Go.Lib (hid)
open Go.Proofs.Tryz hiding parts
namespace Wf
def G9:List U_->Nat->Option Nat
 | [],n=>some n
 | c::l,n=>if c<48\/57<c then none else G9 l (n*10+(c.toNat - 48))
def F9(s:List U_):Option Nat:=if s.length<1\/4<s.length\/(1<s.length/\s[0]?=some 48) then none else G9 s 0
def A2p(s:List U_):Int:=match F9 s with
 | some n=>(n:Int)
 | none=>-1
theorem B68{s:List U_}(h:s.length<1\/4<s.length\/(1<s.length/\s[0]?=some 48)):A2p s=-1:=by
 unfold A2p F9;rw[if_pos h]
theorem B69{s:List U_}(h:¬(s.length<1\/4<s.length\/(1<s.length/\s[0]?=some 48))):F9 s=G9 s 0:=if_neg h
theorem A3i{s:List U_}{i n:Nat}{c:U_}(h:s[i]?=some c)(b:c.toNat<48\/57<c.toNat):G9 (s.drop i) n=none:=by
 obtain⟨a,rfl⟩:=List.getElem?_eq_some_iff.1 h;rw[List.drop_eq_getElem_cons a];unfold G9;exact if_pos (by rw[UInt8.lt_iff_toNat_lt,UInt8.lt_iff_toNat_lt];exact b)
theorem B1u{s:List U_}{i n:Nat}{c:U_}(h:s[i]?=some c)(d:48<=c.toNat)(b:c.toNat<=57):G9 (s.drop i) n=G9 (s.drop (i+1)) (n*10+(c.toNat - 48)):=by
 obtain⟨a,rfl⟩:=List.getElem?_eq_some_iff.1 h;rw[List.drop_eq_getElem_cons a]
 conv=>lhs;unfold G9
 exact if_neg (by rw[UInt8.lt_iff_toNat_lt,UInt8.lt_iff_toNat_lt];show ¬(_<48\/57<_);omega)
def A05(s w:List U_):List U_:=(if 0<s.length then s++[32] else s)++w
def T2(s:List U_):List U_:=if s.length=0 then [45] else s
theorem A0E{n:Nat}(h:n<10000):(Go.Lib.decDigits n).length<=4:=by
 rw[Go.Lib.decDigits]
 split
 .simp
 .have:=B7b (n:=n / 10) (by omega)
  simp;omega
theorem A1O{n:Nat}(h:n<100000):(Go.Lib.decDigits n).length<=5:=by
 rw[Go.Lib.decDigits]
 split
 .simp
 .have:=A0E (n:=n / 10) (by omega)
  simp;omega
end Wf
namespace Go.Proofs.YthhcpbfgoofppaaGreatDoor
open Go.RowKit Wf
theorem A3e{s:B_}{i:Nat}(h:i<s.size):s.data.toList[i]?=some s[i]:=by
 rw[List.getElem?_eq_getElem (by rw[←t6];exact h)];simp[ByteArray.getElem_eq_getElem_data]
def C0O(n:Nat)(w:W_)(e:Ending)(w':W_):Prop:=∃s:B_,e=.returned (.string s)/\s.data.toList=Go.Lib.decDigits n/\s.size<=5/\w'=w
theorem A9f(n:Nat)(c:n<100000)(w:W_):Calls prog 31 #[.int .i64 n] w (C0O n w):=by
 have g:=hid (A1O c);unfold C0O;go_enter func31,ntmps31;go_wp2
 go_loopw [0,3] (λv0 v3 wr=>∃(m:Nat)(t:B_),m<100000/\v0=.int .i64 m/\v3=.string t/\t.size<=5/\Hid (Go.Lib.decDigits m++t.data.toList=Go.Lib.decDigits n)/\Hid (w=wr)) (λi _ _=>(intOf i).toNat)
 case atStart=>exact⟨n,⟨#[]⟩,c,rfl,rfl,by simp[bsz],hid (by simp),hid rfl⟩
 case round =>
  obtain⟨m,t,o,rfl,rfl,l,f,d⟩:=hrel;by_cases hlt:9<m
  .have j:=dt_ ((9:Int)<m)
   have b:=B5c hlt t _ f.out;have a:=congrArg List.length b;have h:=g.out;rw[List.length_append,←t6] at a;go_wp2;exact⟨⟨m / 10,_,by omega,by go_num,rfl,by omega,hid b,d⟩,by simp[intOf];omega⟩
  .have j:=df_ ((9:Int)<m)
   have k:(m:Int)+1<=10:=by omega
   have b:=B7c hlt t _ f.out;have a:=congrArg List.length b;have h:=g.out;rw[←t6] at a;go_wp2;go_ret;exact⟨_,rfl,b,by omega,d.out.symm⟩
theorem B3x(s:B_)(w:W_):Calls prog 35 #[.string s] w (λe w'=>∃t:B_,e=.returned (.string t)/\t.data.toList=T2 s.data.toList/\w'=w):=by
 have a:=hid (t6 s);by_cases h:s.size=0
 .go_enter func35,ntmps35
  have b:(s.size:Int)=0:=by omega
  go_wp2;go_ret;refine⟨_,rfl,?_,rfl⟩;have:=a.out;unfold T2;rw[if_pos (by omega)]
 .go_enter func35,ntmps35
  have b:¬((s.size:Int)=0):=by omega
  go_wp2;go_ret;refine⟨_,rfl,?_,rfl⟩;have:=a.out;unfold T2;rw[if_neg (by omega)]
theorem B9T(s x:B_)(d:s.size<=100000)(c:x.size<=100000)(w:W_):Calls prog 34 #[.string s,.string x] w (λe w'=>∃t:B_,e=.returned (.string t)/\t.data.toList=A05 s.data.toList x.data.toList/\w'=w):=by
 have a:=hid (t6 s);by_cases h:0<s.size
 .go_enter func34,ntmps34
  have b:=dt_ ((0:Int)<s.size);go_wp2;go_ret;refine⟨_,rfl,?_,rfl⟩;have:=a.out;unfold A05;rw[if_pos (by omega),L0,L0]
 .go_enter func34,ntmps34
  have b:=df_ ((0:Int)<s.size);go_wp2;go_ret;refine⟨_,rfl,?_,rfl⟩;have:=a.out;unfold A05;rw[if_neg (by omega),L0]
theorem A0T(s:B_)(w:W_):Calls prog 37 #[.string s] w (λe w'=>e=.returned (.int .i64 (A2p s.data.toList))/\w'=w):=by
 have c:=t6 s;obtain⟨q,m⟩:∃q,q=A2p s.data.toList:=⟨_,rfl⟩
 rw[←m];by_cases d:s.data.toList.length<1\/4<s.data.toList.length\/(1<s.data.toList.length/\s.data.toList[0]?=some 48)
 .have f:=hid (m.trans (B68 d))
  clear m;by_cases O:s.size<1
  .have E:=dt_ ((s.size:Int)<1)
   clear d c;go_enter func37,ntmps37;go_wp2_with fail;go_ret;exact⟨by rw[f.out];rfl,rfl⟩
  .have E:=df_ ((s.size:Int)<1)
   by_cases N:4<s.size
   .have D:=dt_ ((4:Int)<s.size)
    clear d c;go_enter func37,ntmps37;go_wp2_with fail;go_ret;exact⟨by rw[f.out];rfl,rfl⟩
   .have D:=df_ ((4:Int)<s.size)
    have F:1<s.data.toList.length/\s.data.toList[0]?=some 48:=by
     rcases d with h|h|h
     .omega
     .omega
     .exact h
    obtain⟨p,H⟩:=M7 F.2;have r:=dt_ ((1:Int)<s.size);clear d c;have M:(((s[0]'p).toNat:Int)==48)=true:=by rw[H];rfl
    have P:=dt_ ((0:Int)<s.size);go_enter func37,ntmps37;go_wp2_with fail;go_ret;exact⟨by rw[f.out];rfl,rfl⟩
 .have t:=hid (B69 d)
  have O:¬s.size<1:=by omega
  have N:¬ 4<s.size:=by omega
  have E:=df_ ((s.size:Int)<1);have D:=df_ ((4:Int)<s.size);have k:=hid c;have f:=hid m
  have j:∀i:Nat,i<4->10 ^ i<=1000:=λi C=>by
   have:=Nat.pow_le_pow_right (n:=10) (by omega) (show i<=3 by omega)
   simpa using this
  have G:=hid j
  have r:decide ((1:Int)<s.size)=false\/(decide ((1:Int)<s.size)=true/\∃p:0<s.size,(((s[0]'p).toNat:Int)==48)=false):=by
   by_cases F:1<s.size
   .refine .inr ⟨decide_eq_true (by omega),by omega,?_⟩
    rw[beq_eq_false_iff_ne];intro e;apply d;refine .inr (.inr ⟨by omega,?_⟩);rw[A3e (show 0<s.size by omega)]
    congr 1
    apply UInt8.toNat_inj.1;show(s[0]).toNat=48;omega
   .exact .inl (decide_eq_false (by omega))
  clear d c m j;rcases r with r|⟨r,p,M⟩
  .go_enter func37,ntmps37
   go_wp2_with fail
   go_loopw [3,4] (λv3 v4 wr=>∃i n:Nat,i<=s.size/\v4=.int .i64 i/\v3=.int .i64 n/\n<10 ^ i/\Hid (F9 s.data.toList=G9 (s.data.toList.drop i) n)/\wr=w) (λ_ i _=>s.size - (intOf i).toNat)
   case atStart=>exact⟨0,0,by omega,rfl,rfl,by decide,t,by first | rfl | trivial⟩
   case round =>
    clear t;obtain⟨i,n,C,rfl,rfl,o,g,rfl⟩:=hrel;by_cases hlt:i<s.size
    .have y:=G.out i (by omega)
     have z:n<1000:=by omega
     have l:=hid o;clear o y;have L:=dt_ ((i:Int)<s.size);have J:(0:Int)<=i:=by omega
     have b:=A3e hlt;have d:=(s[i]'hlt).toNat_lt;by_cases c1:(s[i]'hlt).toNat<48
     .have a:=hid (A3i (n:=n) b (.inl c1))
      have B:=dt_ (((s[i]'hlt).toNat:Int)<48);clear b;go_wp2_with fail;go_ret;exact⟨by rw[f.out,A2p,g.out,a.out];rfl,rfl⟩
     .have B:=df_ (((s[i]'hlt).toNat:Int)<48)
      by_cases c2:57<(s[i]'hlt).toNat
      .have a:=hid (A3i (n:=n) b (.inr c2))
       have A:=dt_ ((57:Int)<((s[i]'hlt).toNat:Int));clear b;go_wp2_with fail;go_ret;exact⟨by rw[f.out,A2p,g.out,a.out];rfl,rfl⟩
      .have A:=df_ ((57:Int)<((s[i]'hlt).toNat:Int))
       have a:=hid (B1u (n:=n) b (by omega) (by omega));clear b;go_wp2_with fail;go_roundw
       case rel=>exact⟨i+1,n*10+((s[i]'hlt).toNat - 48),by omega,by go_num,by go_num,by rw[Nat.pow_succ];have:=l.out;omega,hid (g.out.trans a.out),trivial⟩
       case measure=>simp[intOf];omega
    .obtain rfl:i=s.size:=by omega
     have a:Hid (F9 s.data.toList=some n):=hid (by rw[g.out,List.drop_eq_nil_iff.2 (by rw[←k.out];exact lr_ _)];rfl);go_wp2_with fail;go_ret;exact⟨by rw[f.out,A2p,a.out];rfl,rfl⟩
  .go_enter func37,ntmps37
   go_wp2_with fail
   go_loopw [3,4] (λv3 v4 wr=>∃i n:Nat,i<=s.size/\v4=.int .i64 i/\v3=.int .i64 n/\n<10 ^ i/\Hid (F9 s.data.toList=G9 (s.data.toList.drop i) n)/\wr=w) (λ_ i _=>s.size - (intOf i).toNat)
   case atStart=>exact⟨0,0,by omega,rfl,rfl,by decide,t,by first | rfl | trivial⟩
   case round =>
    clear t;obtain⟨i,n,C,rfl,rfl,o,g,rfl⟩:=hrel;by_cases hlt:i<s.size
    .have y:=G.out i (by omega)
     have z:n<1000:=by omega
     have l:=hid o;clear o y;have L:=dt_ ((i:Int)<s.size);have J:(0:Int)<=i:=by omega
     have b:=A3e hlt;have d:=(s[i]'hlt).toNat_lt;by_cases c1:(s[i]'hlt).toNat<48
     .have a:=hid (A3i (n:=n) b (.inl c1))
      have B:=dt_ (((s[i]'hlt).toNat:Int)<48);clear b;go_wp2_with fail;go_ret;exact⟨by rw[f.out,A2p,g.out,a.out];rfl,rfl⟩
     .have B:=df_ (((s[i]'hlt).toNat:Int)<48)
      by_cases c2:57<(s[i]'hlt).toNat
      .have a:=hid (A3i (n:=n) b (.inr c2))
       have A:=dt_ ((57:Int)<((s[i]'hlt).toNat:Int));clear b;go_wp2_with fail;go_ret;exact⟨by rw[f.out,A2p,g.out,a.out];rfl,rfl⟩
      .have A:=df_ ((57:Int)<((s[i]'hlt).toNat:Int))
       have a:=hid (B1u (n:=n) b (by omega) (by omega));clear b;go_wp2_with fail;go_roundw
       case rel=>exact⟨i+1,n*10+((s[i]'hlt).toNat - 48),by omega,by go_num,by go_num,by rw[Nat.pow_succ];have:=l.out;omega,hid (g.out.trans a.out),trivial⟩
       case measure=>simp[intOf];omega
    .obtain rfl:i=s.size:=by omega
     have a:Hid (F9 s.data.toList=some n):=hid (by rw[g.out,List.drop_eq_nil_iff.2 (by rw[←k.out];exact lr_ _)];rfl);go_wp2_with fail;go_ret;exact⟨by rw[f.out,A2p,a.out];rfl,rfl⟩
end Go.Proofs.YthhcpbfgoofppaaGreatDoor
namespace Wf
def A0J(e:Nat):List U_ :=
 if e=0 then "OK".toUTF8.data.toList else if e=1 then "ErrRange".toUTF8.data.toList else if e=2 then "ErrShape".toUTF8.data.toList else if e=3 then "ErrFull".toUTF8.data.toList else if e=4 then "ErrNone".toUTF8.data.toList else if e=5 then "ErrSyntax".toUTF8.data.toList else if e=6 then "ErrClash".toUTF8.data.toList else "Errno".toUTF8.data.toList
def D6(s:List U_)(a e:Nat):List U_:=if e=0 then s else if e=5 then A0J e++[32]++Go.Lib.decDigits a else A0J e
end Wf
namespace Go.Proofs.YthhcpbfgoofppaaGreatDoor
open Go.RowKit Wf
theorem B8U(e:Nat)(a:e<=6)(w:W_):Calls prog 50 #[.int .i64 e] w (λf w'=>∃t:B_,f=.returned (.string t)/\t.data.toList=A0J e/\t.size<=9/\w'=w):=by
 have h:e=0\/e=1\/e=2\/e=3\/e=4\/e=5\/e=6:=by omega
 rcases h with rfl|rfl|rfl|rfl|rfl|rfl|rfl
 all_goals
  go_enter func50,ntmps50;go_wp2;go_ret;exact⟨_,rfl,by decide +kernel,by decide +kernel,rfl⟩
theorem B74(s:B_)(a e:Nat)(l:e<=6)(k:a<100000)(w:W_):Calls prog 33 #[.string s,.int .i64 a,.int .i64 e] w (λf w'=>∃t:B_,f=.returned (.string t)/\t.data.toList=D6 s.data.toList a e/\w'=w):=by
 by_cases h0:e=0
 .subst h0
  go_enter func33,ntmps33;go_wp2;go_ret;exact⟨_,rfl,rfl,rfl⟩
 .have h:=hid (B8U e l w)
  have o:=hid (A9f a k w);have m:((e:Int)==0)=false:=by rw[beq_eq_false_iff_ne];omega
  by_cases h5:e=5
  .subst h5
   clear m h0;go_enter func33,ntmps33
   go_wp2_with (first
    | (go_at_call 50;refine h.out.mono ?_;rintro f d⟨t,rfl,b,j,rfl⟩;have c:=hid b;clear b)
    | (go_at_call 31;refine o.out.mono ?_;rintro f d⟨u,rfl,g,i,rfl⟩;have n:=hid g;clear g))
   go_ret;refine⟨_,rfl,?_,rfl⟩;rw[L0,L0,c.out,n.out]
   rfl
  .have p:((e:Int)==5)=false:=by rw[beq_eq_false_iff_ne];omega
   go_enter func33,ntmps33
   go_wp2_with (first
    | (go_at_call 50;refine h.out.mono ?_;rintro f d⟨t,rfl,b,j,rfl⟩;have c:=hid b;clear b))
   go_ret;refine⟨_,rfl,?_,rfl⟩;rw[c.out];unfold D6;rw[if_neg h0,if_neg h5]
end Go.Proofs.YthhcpbfgoofppaaGreatDoor
namespace Wf
open Go.Proofs.YthhcpbfgoofppaaGreatDoor (q9)
def O4(c:U_)(s:List U_):Option (List U_×List U_):=match s.findIdx? (·==c) with
 | none=>none
 | some k=>some (s.take k,s.drop (k+1))
def D3(l:List (List U_)):List U_:=l.foldl A05 []
def A08(h:Nat×Nat×Nat):List U_:=Go.Lib.decDigits h.1++[58]++Go.Lib.decDigits h.2.1++[45]++Go.Lib.decDigits h.2.2
def S7(x:Mb):List U_:=Go.Lib.decDigits x.id++[58]++(if (F0 x.t).length<=200 then F0 x.t else A0J 3)
def A2t:List U_:=[98,97,100]
def A1d:List U_:=[111,107]
noncomputable def A2o(x:Mb)(t:List U_):List U_ :=
 if 400<t.length then A0J 3 else D6 (q9 ⟨t.toArray⟩ ⟨#[95]⟩ (Y0 t x.t 0)).1 0 (q9 ⟨t.toArray⟩ ⟨#[95]⟩ (Y0 t x.t 0)).2.toNat
noncomputable def O2(m:SS)(s:List U_):List U_×SS :=
 if s=[111,110] then (A1d,{ m with on:=true })
 else if s=[111,102,102] then (A1d,{ m with on:=false })
 else if s=[116,114,105,101,100] then (Go.Lib.decDigits m.tried,m)
 else if s=[108,105,115,116] then (T2 (D3 (m.ms.map S7)),m)
 else match O4 32 s with
 | none=>(A2t,m)
 | some (w,r) =>
   if w=[97,100,100] then (D6 (Go.Lib.decDigits (m.added ⟨r.toArray⟩).1) (m.added ⟨r.toArray⟩).2.1 (m.added ⟨r.toArray⟩).2.2.toNat,m.add ⟨r.toArray⟩)
   else if w=[114,101,109,111,118,101] then
    match F9 r with
    | none=>(A2t,m)
    | some n=>(D6 A1d 0 (m.removed n).toNat,m.remove n)
   else if w=[115,99,97,110] then if 400<r.length then (A0J 3,m) else (T2 (D3 ((m.hits r).map A08)),m.scan r)
   else if w=[112,117,116] then
    match O4 32 r with
    | none=>(A2t,m)
    | some (a,t) =>
      match F9 a with
      | none=>(A2t,m)
      | some n =>
        match (m.place n).bind λk=>m.ms[k]? with
        | none=>(A0J 4,m)
        | some x=>(A2o x t,m)
   else (A2t,m)
noncomputable def k7:SS->List (List U_)->List U_
 | _,[]=>[]
 | m,s::l=>(O2 m s).1++[10]++k7 (O2 m s).2 l
end Wf
namespace Wf
open Go.Proofs.YthhcpbfgoofppaaGreatDoor (q9 A4Q)
def J2:List U_->List (List U_)
 | []=>[]
 | c::r=>if c=10 then []::J2 r else match J2 r with
   | []=>[[c]]
   | h::t=>(c::h)::t
theorem A6i{h:List U_}(r:List U_)(a:∀c∈h,c≠10):J2 (h++10::r)=h::J2 r:=by
 induction h with
 | nil=>simp[J2]
 | cons c h ih =>
   have g:=ih (λd b=>a d (List.mem_cons_of_mem _ b));have f:=a c List.mem_cons_self;rw[List.cons_append,J2,if_neg f,g]
theorem A6h{h:List U_}(a:∀c∈h,c≠10)(g:h≠[]):J2 h=[h]:=by
 induction h with
 | nil=>exact absurd rfl g
 | cons c h ih =>
   have f:=a c List.mem_cons_self;rw[J2,if_neg f];cases h with
   | nil=>rfl
   | cons d h=>rw[ih (λx b=>a x (List.mem_cons_of_mem _ b)) (by simp)]
def B8W:List U_:=[116,111,111,32,108,111,110,103,10]
noncomputable def A4e(s:List U_):List U_:=if 3000<s.length then B8W else k7 SS.zero (J2 s)
structure SS.small (m:SS) (n:Nat):Prop where
 ok:m.ok
 last:4*m.last<=n
 tried:m.tried<=12
theorem SS.small_zero:SS.zero.small 0:=⟨SS.ok_zero,by decide,by decide⟩
theorem SS.add_tried(m:SS)(s:B_):(m.add s).tried=m.tried:=by unfold SS.add;split;rfl;split <;> rfl
theorem SS.remove_tried(m:SS)(a:Int):(m.remove a).tried=m.tried:=by unfold SS.remove;split <;> rfl
theorem A1n{c:U_}{s a b:List U_}(h:O4 c s=some (a,b)):s.length=a.length+1+b.length:=by
 unfold O4 at h
 split at h
 .cases h
 .rename_i k d
  have:=(List.findIdx?_eq_some_iff_getElem.1 d).1;injection h with h
  injection h with h1 h2
  subst h1;subst h2;simp;omega
theorem SS.small.line{m:SS}{n:Nat}(h:m.small n)(s:List U_):(O2 m s).2.small (n+s.length):=by
 have a:m.small (n+s.length):=⟨h.ok,by have:=h.last;omega,h.tried⟩
 unfold O2
 split
 .exact⟨h.ok.tried true m.tried,a.last,h.tried⟩
 split
 .exact⟨h.ok.tried false m.tried,a.last,h.tried⟩
 split
 .exact a
 split
 .exact a
 split
 .exact a
 rename_i w r d;have c:=A1n d
 split
 .rename_i b
  refine⟨h.ok.add _,?_,by rw[SS.add_tried];exact h.tried⟩;have j:=(SS.last_add m ⟨r.toArray⟩).2;have i:=h.last;have g:w.length=3:=by rw[b];rfl
  show 4*(m.add ⟨r.toArray⟩).last<=_;omega
 split
 .split
  .exact a
  .exact⟨h.ok.remove _,by show 4*(m.remove _).last<=_;rw[SS.last_remove];exact a.last,by show(m.remove _).tried<=_;rw[SS.remove_tried];exact h.tried⟩
 split
 .split
  .exact a
  .rename_i f
   refine⟨h.ok.scan r,by show 4*(m.scan r).last<=_;rw[SS.last_scan];exact a.last,?_⟩;show(m.scan r).tried<=12;unfold SS.scan;rw[if_pos (by omega)];show(m.tries r).length<=12;have:=B4G m r;have:=h.ok.len;omega
 split
 .split
  .exact a
  .split
   .exact a
   .split <;> exact a
 .exact a
theorem put_len(s w:List U_):(A05 s w).length<=s.length+1+w.length:=by
 unfold A05
 split <;> simp <;> omega
theorem A57{K:Nat}(l:List (List U_))(h:∀x∈l,x.length<=K):∀s:List U_,(l.foldl A05 s).length<=s.length+l.length*(K+1):=by
 induction l with
 | nil=>intro s;simp
 | cons x l ih =>
   intro s;have d:=ih (λy a=>h y (List.mem_cons_of_mem _ a)) (A05 s x);have c:=put_len s x;have b:=h x List.mem_cons_self;rw[List.foldl_cons,List.length_cons,Nat.add_mul];omega
theorem A6R{K:Nat}(l:List (List U_))(h:∀x∈l,x.length<=K):(D3 l).length<=l.length*(K+1):=by
 have:=A57 l h []
 simpa[D3] using this
theorem A5G(s:List U_):(T2 s).length<=s.length+1:=by
 unfold T2
 split <;> simp
theorem hits_len{m:SS}(h:m.ok){s:List U_}(a:s.length<=400):(m.hits s).length<=4812:=by
 have d:=h.len;unfold SS.hits
 have key:∀l:List Mb,(l.flatMap (r5 s)).length<=l.length*401:=by
  intro l
  induction l with
  | nil=>simp
  | cons x l ih =>
    have c:=A1R (V5 s x.t) 0
    have b:(r5 s x).length<=401:=by
     unfold r5 Y0;rw[List.length_map];omega
    rw[List.flatMap_cons,List.length_append,List.length_cons,Nat.add_mul];omega
 have:=key m.ms;omega
theorem A29{m:SS}{n:Nat}(h:m.small n)(f:n<=3000){s:List U_}(d:s.length<=400):∀q∈m.hits s,q.1<=750/\q.2.1<=400/\q.2.2<=400:=by
 intro q a;unfold SS.hits at a;obtain⟨x,b,a⟩:=List.mem_flatMap.1 a;unfold r5 at a;obtain⟨p,c,rfl⟩:=List.mem_map.1 a;have k:=(h.ok.pos x b).2;have j:=h.last;obtain⟨_,i,g,_⟩:=B7y (V5 s x.t) 0 p c;refine⟨by show x.id<=750;omega,by show p.1<=400;omega,by show p.2<=400;omega⟩
theorem A5a{q:Nat×Nat×Nat}(g:q.1<=750)(f:q.2.1<=400)(d:q.2.2<=400):(A08 q).length<=14:=by
 have a:=A0E (n:=q.1) (by omega);have b:=A0E (n:=q.2.1) (by omega);have c:=A0E (n:=q.2.2) (by omega);simp[A08];omega
theorem A0h(e:Nat):(A0J e).length<=9:=by
 unfold A0J
 repeat' split
 all_goals decide +kernel
theorem A6s{x:Mb}(h:x.id<=750):(S7 x).length<=205:=by
 have a:=A0E (n:=x.id) (by omega);have b:=A0h 3;unfold S7
 split <;> simp <;> omega
theorem A40{s:List U_}{K p e:Nat}(c:s.length<=K)(d:p<=1000):(D6 s p e).length<=K+15:=by
 have a:=A0E (n:=p) (by omega);have b:=A0h e;unfold D6
 split
 .omega
 .split
  .rw[List.length_append,List.length_append]
   simp;omega
  .omega
theorem B2P(a bx:B_)(b:List (Nat×Nat)):(q9 a bx b).1.length<=400:=by
 unfold q9
 split
 .simp
 .split
  .simp
  .show(A4Q a bx b).length<=400;omega
theorem A7O(s:B_):(Q3 s).2.1<=200/\0<=(Q3 s).1/\(Q3 s).1<=6:=by
 unfold Q3
 split
 .simp
 .rename_i c
  have b:s.data.toList.length=s.size:=by simp
  split
  .rename_i k a
   have:=A6a (s:=s.data.toList) a;simp;omega
  .rename_i t j a
   obtain⟨_,d,_⟩:=(M6 (s:=s.data.toList) _ 0 (lr_ _) (Nat.zero_le _)).2.2 _ _ a
   split
   .split <;> simp
   .simp
    omega
theorem A2J{m:SS}{n:Nat}(h:m.small n)(b:n<=3000)(s:B_):(m.added s).1<=751/\(m.added s).2.1<=200/\0<=(m.added s).2.2/\(m.added s).2.2<=6:=by
 have a:=A7O s;have c:=h.last;unfold SS.added
 split
 .refine⟨by simp,a.1,a.2⟩
 .split
  .refine⟨by show m.last+1<=751;omega,by simp,by simp,by simp⟩
  .exact⟨by simp,by simp,by simp,by simp⟩
theorem A37{m:SS}{n:Nat}(h:m.small n)(j:n<=3000)(s:List U_):(O2 m s).1.length<=80000:=by
 have d:A2t.length<=80000:=by decide
 have f:A1d.length<=80000:=by decide
 unfold O2
 split
 .exact f
 split
 .exact f
 split
 .have:=A0E (n:=m.tried) (by have:=h.tried;omega)
  show(Go.Lib.decDigits m.tried).length<=_;omega
 split
 .show(T2 (D3 (m.ms.map S7))).length<=_
  have g:=A6R (K:=205) (m.ms.map S7) (λy i=>by
   obtain⟨x,o,rfl⟩:=List.mem_map.1 i;have:=(h.ok.pos x o).2;have:=h.last;exact A6s (by omega))
  have l:=A5G (D3 (m.ms.map S7));have k:=h.ok.len;rw[List.length_map] at g;omega
 split
 .exact d
 rename_i w r A
 split
 .obtain⟨g,l,k,z⟩:=A2J h j ⟨r.toArray⟩
  have:=A0E (n:=(m.added ⟨r.toArray⟩).1) (by omega);have:=A40 (s:=Go.Lib.decDigits (m.added ⟨r.toArray⟩).1) (K:=4) (p:=(m.added ⟨r.toArray⟩).2.1) (e:=(m.added ⟨r.toArray⟩).2.2.toNat) (by omega) (by omega);show(D6 _ _ _).length<=_;omega
 split
 .split
  .exact d
  .show(D6 A1d 0 (m.removed _).toNat).length<=_
   exact Nat.le_trans (A40 (K:=2) (by decide) (by omega)) (by omega)
 split
 .split
  .have:=A0h 3
   show(A0J 3).length<=_;omega
  .rename_i z
   show(T2 (D3 ((m.hits r).map A08))).length<=_
   have g:=A6R (K:=14) ((m.hits r).map A08) (λy i=>by
    obtain⟨q,t,rfl⟩:=List.mem_map.1 i;obtain⟨a,b,c⟩:=A29 h j (by omega) q t;exact A5a a b c)
   have l:=A5G (D3 ((m.hits r).map A08));have k:=hits_len h.ok (s:=r) (by omega);rw[List.length_map] at g;omega
 split
 .split
  .exact d
  .split
   .exact d
   .split
    .have:=A0h 4
     show(A0J 4).length<=_;omega
    .show(A2o _ _).length<=_
     unfold A2o
     split
     .have:=A0h 3
      omega
     .exact Nat.le_trans (A40 (K:=400) (B2P _ _ _) (by omega)) (by omega)
 .exact d
