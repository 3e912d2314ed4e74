import Derived.Test.YthhcpbfgoofppaaGreatDoorGFind
import Derived.Test.YthhcpbfgoofppaaGreatDoorGRn
import Derived.Test.YthhcpbfgoofppaaGreatDoorGSetC
import Derived.Lib.AtoiTie
import Derived.Lib.IndexLaws
set_option linter.unusedVariables false
set_option linter.unusedSimpArgs false
open Wf
set_option maxRecDepth 100000
set_option maxHeartbeats 4000000
open Go.Lib (hid)
open Go.Proofs.Tryz hiding parts
namespace Go.Proofs.YthhcpbfgoofppaaGreatDoor
open Go.RowKit Wf
theorem B9I(t:Addr)(w:W_):Calls prog 49 #[.nilIface,.iface 102 (.pointer (some t))] w (λe w'=>e=.returned (.bool false)/\w'=w):=by
 go_enter func49,ntmps49;go_wp2;go_ret;exact⟨rfl,rfl⟩
def A4L(r:List U_)(w:W_)(e:Ending)(w':W_):Prop:=∃t:B_,e=.returned (.string t)/\t.data.toList=r/\Below w.heap.size w w'
theorem B4J{s:List U_}{p e:Nat}(b:e≠0)(a:e≠5):D6 s p e=A0J e:=by unfold D6;rw[if_neg b,if_neg a]
theorem A3z(s:B_)(a e:Nat)(F:e<=6)(L:a<=1000)(w:W_)(q:A5z w)(p:A02 w):
 Calls prog 23 #[.string s,.int .i64 a,m7 (e:Int)] w (A4L (D6 s.data.toList a e) w):=by
 unfold A4L;by_cases hn:e=0
 .subst hn
  rw[show m7 ((0:Nat):Int)=.nilIface from j5];have h:=hid ((Below.refl w.heap.size w).alloc (lr_ _) (.cells #[.int .i64 0] 81));have d:=hid (B9I ⟨w.heap.size,0,none⟩ (w.alloc (.cells #[.int .i64 0] 81)));clear q p;go_enter func23,ntmps23;go_wp2_with fail;refine d.out.mono ?_;rintro f g⟨rfl,rfl⟩;go_wp2_with fail;go_ret;exact⟨_,rfl,rfl,h.out⟩
 .rw[L8 (show(e:Int)≠0 by omega)]
  have l:=q.below ((Below.refl _ w).alloc (lr_ _) (.cells #[.int .i64 0] 81));have r:=J0.new w 81 #[.int .i64 0];have d:=hid (B9J (e:Int) ⟨w.heap.size,0,none⟩ (.int .i64 0) (w.alloc (.cells #[.int .i64 0] 81)) l (r.cell 0) (r.frozen 0));have H:=hid (B8U e F);have O:Hid (∀W,Below w.heap.size w W->Calls prog 20 #[.int .i64 a] W (λe w'=>e=.returned (.string ⟨(Lib.decDigits a).toArray⟩)/\Below W.heap.size W w')):=hid λW M=>A5w a L W (p.below M)
  have N:=hid hn;have A:=hid (A1O (n:=a) (by omega));clear q l r p F hn;go_enter func23,ntmps23;go_wp2_with fail;refine d.out.mono ?_;rintro f g⟨rfl,c⟩
  have k:J0 g w.heap.size 81 #[.int .i64 e]:=by
   rw[c];have:=((((J0.new w 81 #[.int .i64 0]).alloc (.cells #[.pointer (some ⟨w.heap.size,0,none⟩)] 102)).alloc (.cells #[.pointer (some ⟨7,102,none⟩),.pointer (some ⟨(w.alloc (.cells #[.int .i64 0] 81)).heap.size,0,none⟩),.int .u64 150] 142)).alloc (.cells #[.pointer (some ⟨7,102,none⟩),.pointer (some ⟨(w.alloc (.cells #[.int .i64 0] 81)).heap.size,0,none⟩),.int .u64 150] 142)).alloc (.cells #[.int .i64 e] 81);exact this.set_ 0 (.int .i64 e)
  have i:Below w.heap.size w g:=by
   rw[c];exact A9P ((((((Below.refl _ w).alloc (lr_ _) _).alloc (by simp) _).alloc (by simp;omega) _).alloc (by simp;omega) _).alloc (by simp;omega) _) (lr_ _)
  have R:g.cell? ⟨w.heap.size,0,none⟩=some (.int .i64 e):=k.cell 0;have h:=hid i;clear c k i;by_cases h5:e=5
  .subst h5
   go_wp2_with fail;refine(H.out g).mono ?_;rintro f J⟨t,rfl,b,o,rfl⟩;have B:=hid b;clear b;go_wp2_with fail;refine(O.out _ h.out).mono ?_;rintro f P⟨rfl,j⟩;obtain⟨D,m⟩:∃D,D=Lib.decDigits a:=⟨_,rfl⟩
   have z:=A.out;rw[←m] at z;have y:(⟨D.toArray⟩:B_).size=D.length:=by simp[ByteArray.size]
   have G:(⟨D.toArray⟩:B_).size<=5:=by omega
   have E:=hid (h.out.trans (j.mono h.out.size));have C:=hid m;rw[←m];clear j y m;go_wp2_with fail;go_ret;refine⟨_,rfl,?_,E.out⟩;rw[L0,L0,B.out,C.out]
   rfl
  .have Q:((e:Int)==5)=false:=by rw[beq_eq_false_iff_ne];omega
   go_wp2_with fail;refine(H.out g).mono ?_;rintro f J⟨t,rfl,b,o,rfl⟩;have B:=hid b;clear b;go_wp2_with fail;go_ret;refine⟨_,rfl,?_,h.out⟩;rw[B.out];exact(B4J N.out h5).symm
def A52(l:List Nd)(w:W_)(e:Ending)(w':W_):Prop :=
 ∃(A:Option Addr)(cap:Nat),e=.returned (.slice A l.length cap)/\w'.ownsRow w.heap.size 114 5 (.slice A l.length cap) l.length (l.flatMap P0)/\Below w.heap.size w w'
theorem B6b(p:List Nd)(H:0<p.length)(G:p.length<=60)(t:V_)(w:W_)(y:q7 w t p):
 Calls prog 56 #[t] w (A52 p w):=by
 obtain⟨E,o,m,l,k⟩:=info_parts A4B;have a:=Rd.src y (by omega);obtain⟨A,n,cap,rfl,J,a⟩:=a;rw[N1] at J;obtain rfl:n=p.length:=by omega
 obtain⟨r,rfl,q,B⟩:=a H
 have N:Hid (∀j u,(p.flatMap P0)[j]?=some u->(w.alloc (.cells #[] 114)).cell? (r.add j)=some u):=hid (λj u F=>by
  have P:=B j u F;rwa[World.cell?_of_block (Below.heap_alloc w _ _ (by rw[A66];exact q))])
 have z:∀W,(binOp .eql 73 (.slice (some r) p.length cap) (.slice none 0 0)).run prog W=.ok (.bool false) W:=λW=>Lib.run_eql_slice_nil W _ _ _ _ _ _ _ underlying73
 have C:=hid (A6Z w 114 5);have M:=hid (N1 p);clear y B a;go_enter func56,ntmps56
 go_wp2_with (at_builtin;refine wpList_append_own _ rfl (.tmp 5) (.tmp 6) _ rfl w.heap.size 114 E _ 5 40 underlying73 o m l k rfl (by omega) _ 0 [] rfl C.out r p.length cap (p.flatMap P0) rfl M.out N.out (o7 p) (by unfold maxLen;omega) (by omega) (by simp) ?_;intro O w' b h _)
 have c:=b;simp only[Nat.zero_add,List.nil_append] at c;have d:Below w.heap.size w w':=J4 ba_ (lr_ _) (by simp) C.out h;obtain⟨L,D,f,rfl,_,_,g,_⟩:=Rd.of_own c;rw[N1] at g;obtain rfl:D=p.length:=by omega
 have s:=hid c;have i:=hid d;clear c d b h g;go_wp2_with fail;go_ret;exact⟨L,f,rfl,s.out,i.out⟩
theorem B2h(l:List Nd)(c bx:B_)(j:c.size<=9223372036854775807)(g:400<c.size)(i:chk l=0)(v:V_)(w:W_)(h:q7 w v l):
 Calls prog 30 #[v,.string c,.string bx] w (B08 3 w):=by
 have b:A1o l c.size=3:=by unfold A1o;rw[if_neg (by rw[i];simp),if_pos g]
 have a:=hid (B4S l c j v w h (by rw[b];decide));rw[b] at a;have d:m7 3=.iface 81 (.int .i64 3):=L8 (by decide);unfold B08;unfold B1y at a;rw[d] at a ⊢;clear h b i d;go_enter func30,ntmps30;go_wp2_with fail;refine a.out.mono ?_;rintro e m⟨rfl,f⟩;have k:=hid f;clear f;go_wp2_with fail;go_ret2;exact⟨rfl,k.out⟩
end Go.Proofs.YthhcpbfgoofppaaGreatDoor
namespace Go.Proofs.YthhcpbfgoofppaaGreatDoor.setW
open Go.RowKit Wf
def B8S(m:SS)(x:Int)(w:W_)(e:Ending)(w':W_):Prop:=Below w.heap.size w w' /\
 ((m.place x=none/\e=.returned (.tuple #[.slice none 0 0,.iface 81 (.int .i64 4)])) \/
  (∃(k:Nat)(q:Mb) (A:Option Addr) (cap:Nat),m.place x=some k/\m.ms[k]?=some q/\e=.returned (.tuple #[.slice A (A0 q.t).length cap,.nilIface])/\q7 w' (.slice A (A0 q.t).length cap) (A0 q.t)))
theorem A2P(B b:Nat)(m:SS)(s:List Mr)(A:V_)(x:Int)(w:W_)(h:M1 B b m s A w):
 Calls prog 29 #[.pointer (some ⟨b,0,none⟩),.int .i64 x] w (B8S m x w):=by
 have d:=hid (B96 B b m s A x w h);unfold B8S;cases hp:m.place x with
 | none =>
   rw[hp] at d;clear h hp;go_enter func29,ntmps29;go_wp2_with fail;refine d.out.mono ?_;rintro e J⟨rfl,n⟩;have G:=hid n;clear n;simp only[A4f];go_wp2_with fail;go_ret2;exact⟨G.out,.inl ⟨by first | rfl | trivial,rfl⟩⟩
 | some k =>
   rw[hp] at d;have V:=A0e hp;have j:=h.ms;have z:m.ms.length=s.length:=by rw[j,List.length_map]
   obtain⟨q,H⟩:∃q,s[k]?=some q:=⟨_,List.getElem?_eq_getElem (by omega)⟩
   have l:m.ms[k]?=some q.1:=by rw[j,List.getElem?_map,H];rfl
   have P:=h.len;have y:=h.ok.read q.1 (List.mem_of_getElem? l);have C:=(T5 y).2.2.1;have Q:=(h.mem q (List.mem_of_getElem? H)).1;have c:Hid (∀W,Below w.heap.size w W->Calls prog 56 #[A3O q] W (A52 (A0 q.1.t) W)):=hid λW E=>B6b _ (G0 _) C _ W (Rd.of_own (Q.below E))
   have L:Hid (∀W,Below w.heap.size w W->W.cell? ⟨b,0,none⟩=some A):=hid λW E=>(h.below E).blk.cell 0
   obtain⟨Ao,cap,hA,Z,Y,i⟩:=h.open_;obtain⟨g,rfl,X,a⟩:=i (by omega);have R:Hid (∀W,Below w.heap.size w W->W.cell? ⟨g,k*4+2,none⟩=some (A3O q)):=hid λW E=>(a W (λo=>E.cell (p:=⟨g,o,none⟩) X) k q H).2.2.1
   subst hA;unfold A3O at c R;unfold A52 at c;have N:=hid l;have T:k<s.length:=by omega
   clear h j z l y C Q i a H hp V;go_enter func29,ntmps29;go_wp2_with fail;refine d.out.mono ?_;rintro e J⟨rfl,n⟩;have c0:=L.out J n;have c2:=R.out J n;have G:=hid n;clear n;simp only[A4f];obtain⟨F,M⟩:∃F,F=A0 q.1.t:=⟨_,rfl⟩
   rw[←M] at c c2;have S:=hid M;clear M;go_wp2_with fail;refine(c.out _ G.out).mono ?_;rintro e w2⟨VA,r,rfl,f,D⟩;have O:=hid (G.out.trans (D.mono G.out.size));have HO:=hid (Rd.of_own f);clear f D;go_wp2_with fail;go_ret2;exact⟨O.out,.inr ⟨k,q.1,VA,r,by first | rfl | trivial,N.out,by rw[←S.out];rfl,by rw[←S.out];exact HO.out⟩⟩
end Go.Proofs.YthhcpbfgoofppaaGreatDoor.setW
namespace Wf
theorem B5Z(l:List U_):∀n,G9 l n=Go.Lib.decFrom n l:=by
 induction l with
 | nil=>intro n;rfl
 | cons c l ih =>
   intro n;have hlt:=c.toNat_lt;by_cases hc:c<48\/57<c
   .have a:Go.Lib.digitVal c=none:=by
     unfold Go.Lib.digitVal;rw[if_neg];rw[UInt8.lt_iff_toNat_lt,UInt8.lt_iff_toNat_lt] at hc;have d:(48:U_).toNat=48:=rfl;have b:(57:U_).toNat=57:=rfl;omega
    unfold G9 Go.Lib.decFrom;rw[if_pos hc,a]
   .have a:Go.Lib.digitVal c=some (c.toNat - 48):=by
     unfold Go.Lib.digitVal;rw[if_pos];rw[UInt8.lt_iff_toNat_lt,UInt8.lt_iff_toNat_lt] at hc;have d:(48:U_).toNat=48:=rfl;have b:(57:U_).toNat=57:=rfl;omega
    unfold G9 Go.Lib.decFrom;rw[if_neg hc,a,ih]
theorem B0n(l:List U_):∀k n,G9 l k=some n->n<(k+1)*10 ^ l.length:=by
 induction l with
 | nil=>intro k n h;simp[G9] at h;simp;omega
 | cons c l ih =>
   intro k n h;unfold G9 at h
   split at h
   .cases h
   .rename_i a
    rw[UInt8.lt_iff_toNat_lt,UInt8.lt_iff_toNat_lt] at a;have f:(48:U_).toNat=48:=rfl;have d:(57:U_).toNat=57:=rfl;have b:=ih _ n h;rw[List.length_cons,Nat.pow_succ,Nat.mul_comm (10 ^ l.length) 10,←Nat.mul_assoc];exact Nat.lt_of_lt_of_le b (Nat.mul_le_mul_right _ (by omega))
theorem B5d{k d:Nat}(a:0<k)(b:d<10):Go.Lib.decDigits (k*10+d)=Go.Lib.decDigits k++[UInt8.ofNat (48+d)]:=by
 conv=>lhs;rw[Go.Lib.decDigits]
 rw[dif_neg (by omega),show(k*10+d) / 10=k by omega,show(k*10+d) % 10=d by omega]
theorem B3U(l:List U_):∀k n,0<k->G9 l k=some n->Go.Lib.decDigits n=Go.Lib.decDigits k++l:=by
 induction l with
 | nil=>intro k n _ h;simp[G9] at h;simp[h]
 | cons c l ih =>
   intro k n a h;unfold G9 at h
   split at h
   .cases h
   .rename_i b
    rw[UInt8.lt_iff_toNat_lt,UInt8.lt_iff_toNat_lt] at b;have g:(48:U_).toNat=48:=rfl;have f:(57:U_).toNat=57:=rfl;have d:=ih _ n (by omega) h
    rw[d,B5d a (by omega),show UInt8.ofNat (48+(c.toNat - 48))=c by
     rw[show 48+(c.toNat - 48)=c.toNat by omega];simp]
    simp
theorem A5J{l:List U_}{n:Nat}(h:F9 l=some n):Go.Lib.atoiAll l=.ok (n:Int)/\l.length<=4/\Go.Lib.itoa (n:Int)=l/\n<10000:=by
 unfold F9 at h
 split at h
 .cases h
 .rename_i g
  have a:l.length<=4:=by omega
  have i:n<10000:=by
   have p:=B0n l 0 n h;have o:10 ^ l.length<=10 ^ 4:=Nat.pow_le_pow_right (by omega) a;omega
  rw[Go.Lib.itoa_nonneg];cases l with
  | nil=>simp at g
  | cons c r =>
    have j:=h;unfold G9 at h
    split at h
    .cases h
    .rename_i f
     rw[UInt8.lt_iff_toNat_lt,UInt8.lt_iff_toNat_lt] at f;have s:(48:U_).toNat=48:=rfl;have q:(57:U_).toNat=57:=rfl;refine⟨?_,a,?_,i⟩
     .rw[Go.Lib.atoiAll_short _ (by omega)]
      have m:(c==45)=false:=by rw[beq_eq_false_iff_ne];rintro rfl;exact f (.inl (by decide))
      have k:(c==43)=false:=by rw[beq_eq_false_iff_ne];rintro rfl;exact f (.inl (by decide))
      unfold Go.Lib.atoi;simp only[m,k,Bool.false_eq_true,if_false];unfold Go.Lib.decNat;rw[if_neg (by simp),←B5Z,j]
      rfl
     .by_cases h48:c.toNat=48
      .have b:c=48:=UInt8.toNat_inj.1 (by rw[h48];rfl)
       subst b;cases r with
       | nil=>simp[G9] at h;subst h;decide +kernel
       | cons d r=>simp at g
      .rw[B3U r _ n (by omega) h]
       rw[Go.Lib.decDigits,dif_pos (by omega),show UInt8.ofNat (48+(0*10+(c.toNat - 48)))=c by
        rw[show 48+(0*10+(c.toNat - 48))=c.toNat by omega];simp]
       rfl
theorem B5a(a b:List U_):∀n,G9 (a++b) n=(G9 a n).bind (G9 b):=by
 induction a with
 | nil=>intro n;rfl
 | cons c a ih =>
   intro n;rw[List.cons_append];unfold G9
   split
   .rfl
   .exact ih _
theorem B1t{d k:Nat}(a:d<10):G9 [UInt8.ofNat (48+d)] k=some (k*10+d):=by
 have e:(UInt8.ofNat (48+d)).toNat=48+d:=by rw[UInt8.toNat_ofNat'];omega
 unfold G9 G9;rw[if_neg,e]
 .congr 1;omega
 .rw[UInt8.lt_iff_toNat_lt,UInt8.lt_iff_toNat_lt,e]
  show ¬(48+d<48\/57<48+d);omega
theorem B7a:∀u,G9 (Go.Lib.decDigits u) 0=some u:=by
 intro u
 induction u using Nat.strongRecOn with
 | _ u ih =>
   rw[Go.Lib.decDigits]
   split
   .rename_i h;rw[B1t h];simp
   .rename_i h
    rw[B5a,ih (u / 10) (by omega)];show G9 _ (u / 10)=_;rw[B1t (by omega)]
    congr 1
    omega
theorem A9A:∀u,0<u->∃c,(Go.Lib.decDigits u)[0]?=some c/\c≠48:=by
 intro u
 induction u using Nat.strongRecOn with
 | _ u ih =>
   intro f;rw[Go.Lib.decDigits]
   split
   .rename_i h
    refine⟨_,rfl,λe=>?_⟩;have d:=congrArg UInt8.toNat e;rw[UInt8.toNat_ofNat'] at d;have g:(48:U_).toNat=48:=rfl;omega
   .rename_i h
    obtain⟨c,a,b⟩:=ih (u / 10) (by omega) (by omega);obtain⟨hlt,_⟩:=List.getElem?_eq_some_iff.1 a;exact⟨c,by rw[List.getElem?_append_left hlt];exact a,b⟩
theorem B4o{l:List U_}{v:Int}(i:0<=v)(j:l.length<=4)(b:Go.Lib.itoa v=l):F9 l=some v.toNat:=by
 obtain⟨u,rfl⟩:=Int.eq_ofNat_of_zero_le i;rw[Go.Lib.itoa_nonneg] at b;subst b;unfold F9;rw[if_neg,B7a]
 .rfl
 .rintro (h|h|⟨g,f⟩)
  .by_cases hu:0<u
   .obtain⟨c,a,_⟩:=A9A u hu
    obtain⟨hlt,_⟩:=List.getElem?_eq_some_iff.1 a;omega
   .have:u=0:=by omega
    subst this
    revert h
    decide +kernel
  .omega
  .by_cases hu:0<u
   .obtain⟨c,a,d⟩:=A9A u hu
    rw[f] at a;injection a with a
    exact d a.symm
   .have:u=0:=by omega
    subst this
    revert g
    decide +kernel
end Wf
namespace Go.Proofs.YthhcpbfgoofppaaGreatDoor
open Go.RowKit Wf
def A7p(rv:V_)(w:W_):Prop:=w.cell? ⟨4,0,none⟩=some rv/\(rv=.nilIface\/∃a b,rv=.iface a b)
theorem A7p.below{rv:V_}{w w':W_}(h:A7p rv w)(a:Below w.heap.size w w'):A7p rv w':=⟨(a.cell (p:=⟨4,0,none⟩) (World.block_lt_of_cell? w _ h.1)).trans h.1,h.2⟩
def B6c(w:W_)(e:Ending)(w':W_):Prop:=∃(v:Int)(N:Nat),e=.returned (.tuple #[.int .i64 v,.iface 213 (.pointer (some ⟨N,0,none⟩))])/\Below w.heap.size w w'
theorem B8I(s:B_)(d:s.size<=3000)(h:∀v,Lib.atoiAll s.data.toList≠.ok v)(w:W_){ev rv:V_}(b:A2K ev w)(a:A7p rv w):
 Calls prog 53 #[.string s] w (B6c w):=by
 rcases hc:Lib.atoiAll s.data.toList with v|_|_
 .exact absurd hc (h v)
 .refine(Any.strconv_Atoi_syntax A7Z s (by omega) hc ev w b.1 b.2).mono ?_
  rintro e w'⟨N,rfl,_,_,c⟩;exact⟨_,N,rfl,c⟩
 .refine(Any.strconv_Atoi_range A7Z s (by omega) hc rv w a.1 a.2).mono ?_
  rintro e w'⟨N,rfl,_,_,c⟩;exact⟨_,N,rfl,c⟩
theorem A9t(s:B_)(a:s.size<=3000)(v:Int)(h:Lib.atoiAll s.data.toList=.ok v)(w:W_):
 Calls prog 53 #[.string s] w (λe w'=>e=.returned (.tuple #[.int .i64 v,.nilIface])/\Below w.heap.size w w'):=by
 refine(Any.strconv_Atoi_ok A7Z s (by omega) v h w).mono ?_;rintro e w'⟨rfl,rfl|⟨t,rfl⟩⟩
 .exact⟨rfl,br_⟩
 .exact⟨rfl,Lib.bytesWorld_below _ _ _⟩
theorem B6U(n:Int)(c:-9223372036854775808<=n)(b:n<=9223372036854775807)(w:W_)(a:A02 w):
 Calls prog 20 #[.int .i64 n] w (λe w'=>e=.returned (.string ⟨(Lib.itoa n).toArray⟩)/\Below w.heap.size w w'):=by
 refine(Any.strconv_Itoa B1g n c b w a).mono ?_;rintro e w'⟨rfl,k,os,rfl⟩;exact⟨rfl,A5l w k os⟩
def A1X:V_:=.iface 49 (.agg #[])
theorem A18(s:B_)(l:s.size<=3000)(n:Nat)(h:F9 s.data.toList=some n)(w:W_)(i:A02 w):
 Calls prog 25 #[.string s] w (λe w'=>e=.returned (.int .i64 n)/\Below w.heap.size w w'):=by
 obtain⟨k,p,j,z⟩:=A5J h;have m:s.data.toList.length=s.size:=by simp
 have r:=hid (A9t s l (n:Int) k w);have c:(⟨(Lib.itoa (n:Int)).toArray⟩:B_)=s:=by rw[j]
 have q:Hid (∀W,Below w.heap.size w W->Calls prog 20 #[.int .i64 n] W (λe w'=>e=.returned (.string s)/\Below W.heap.size W w')):=hid λW o=>(B6U (n:Int) (by omega) (by omega) W (i.below o)).mono λe w' ⟨a,b⟩=>⟨by rw[a,c],b⟩
 have B:=df_ ((n:Int)<0);have A:=df_ ((4:Int)<s.size);clear h k p j m i c;go_enter func25,ntmps25;go_wp2_with fail;refine r.out.mono ?_;rintro e y⟨rfl,d⟩;have g:=hid d;clear d;go_wp2_with fail;refine(q.out _ g.out).mono ?_;rintro e t⟨rfl,d⟩;have f:=hid (g.out.trans (d.mono g.out.size));clear d;go_wp2_with fail;go_ret;exact⟨rfl,f.out⟩
theorem A4V(s:B_)(r:s.size<=3000)(h:F9 s.data.toList=none)(w:W_)(j:A02 w){ev rv:V_}(c:A2K ev w)(b:A7p rv w):
 Calls prog 25 #[.string s] w (λe w'=>e=.panicked [{ v:=A1X,recovered:=false }]/\Below w.heap.size w w'):=by
 have l:s.data.toList.length=s.size:=by simp
 unfold A1X;by_cases hok:∃v,Lib.atoiAll s.data.toList=.ok v
 .obtain⟨v,f⟩:=hok
  obtain⟨o,n⟩:=Lib.atoiAll_bounds f;have g:=hid (A9t s r v f w);have t:Hid (∀W,Below w.heap.size w W->Calls prog 20 #[.int .i64 v] W (λe w'=>e=.returned (.string ⟨(Lib.itoa v).toArray⟩)/\Below W.heap.size W w')):=hid λW y=>B6U v o n W (j.below y)
  by_cases hn:v<0
  .have A:decide (v<0)=true:=decide_eq_true hn
   clear h f l j c b hn;go_enter func25,ntmps25;go_wp2_with fail;refine g.out.mono ?_;rintro e m⟨rfl,a⟩;have d:=hid a;clear a;go_wp2_with fail;exact⟨rfl,rfl,d.out⟩
  .have A:decide (v<0)=false:=decide_eq_false hn
   by_cases h4:4<s.size
   .have z:=dt_ ((4:Int)<s.size)
    clear h f l j c b hn h4;go_enter func25,ntmps25;go_wp2_with fail;refine g.out.mono ?_;rintro e m⟨rfl,a⟩;have d:=hid a;clear a;go_wp2_with fail;exact⟨rfl,rfl,d.out⟩
   .have z:=df_ ((4:Int)<s.size)
    have k:Lib.itoa v≠s.data.toList:=λe=>by
     have:=B4o (by omega) (by omega) e;rw[h] at this;cases this
    obtain⟨X,p⟩:∃X:B_,X=⟨(Lib.itoa v).toArray⟩:=⟨_,rfl⟩
    rw[←p] at t;have i:X≠s:=λe=>k (by rw[←e,p])
    have D:decide (X=s)=false:=decide_eq_false i
    have C:(X.toList==s.toList)=false:=by
     rw[beq_eq_false_iff_ne];intro e;exact i (ByteArray.ext (Array.toList_inj.1 (by rw[←Lib.toList_data,←Lib.toList_data];exact e)))
    clear h f l j c b hn h4 k p;go_enter func25,ntmps25;go_wp2_with fail;refine g.out.mono ?_;rintro e m⟨rfl,a⟩;have d:=hid a;clear a;go_wp2_with fail;refine(t.out _ d.out).mono ?_;rintro e B⟨rfl,a⟩;have q:=hid (d.out.trans (a.mono d.out.size));clear a;go_wp2_with fail;exact⟨rfl,rfl,q.out⟩
 .have g:=hid (B8I s r (λv f=>hok ⟨v,f⟩) w c b)
  unfold B6c at g;clear h l j c b hok;go_enter func25,ntmps25;go_wp2_with fail;refine g.out.mono ?_;rintro e m⟨v,N,rfl,a⟩;have d:=hid a;clear a;go_wp2_with fail;exact⟨rfl,rfl,d.out⟩
end Go.Proofs.YthhcpbfgoofppaaGreatDoor
namespace Wf
theorem B0p{c:U_}{l:List U_}(h:Go.Lib.indexByte l c=-1):O4 c l=none:=by
 unfold O4
 have:l.findIdx? (·==c)=none:=by
  rw[List.findIdx?_eq_none_iff];intro x a;obtain⟨k,b,d⟩:=List.getElem_of_mem a;have:=Go.Lib.indexByte_none h k;rw[List.getElem?_eq_getElem b,d] at this;rw[beq_eq_false_iff_ne];exact λe=>this (congrArg some e)
 rw[this]
theorem B0o{c:U_}{l:List U_}{o:Nat}(h:Go.Lib.indexByte l c=o):O4 c l=some (l.take o,l.drop (o+1))/\o<l.length:=by
 obtain⟨g,f⟩:=Go.Lib.indexByte_some h;obtain⟨hlt,b⟩:=List.getElem?_eq_some_iff.1 g
 have:l.findIdx? (·==c)=some o:=by
  rw[List.findIdx?_eq_some_iff_getElem];refine⟨hlt,by simp[b],λj d=>?_⟩;have a:=f j d;rw[List.getElem?_eq_getElem (by omega)] at a;intro e;exact a (congrArg some (beq_iff_eq.1 e))
 unfold O4;rw[this];exact⟨rfl,hlt⟩
theorem B3V{c:U_}{s a b:List U_}(h:O4 c s=some (a,b)):s=a++c::b/\∀d∈a,d≠c:=by
 unfold O4 at h
 split at h
 .cases h
 .rename_i k l
  obtain⟨hlt,f,i⟩:=List.findIdx?_eq_some_iff_getElem.1 l;injection h with h
  injection h with h1 h2
  subst h1;subst h2;have f:s[k]=c:=beq_iff_eq.1 f;refine⟨?_,?_⟩
  .conv=>lhs;rw[←List.take_append_drop k s]
   rw[List.drop_eq_getElem_cons hlt,f]
  .intro d n e
   obtain⟨j,m,g⟩:=List.getElem_of_mem n;rw[List.length_take] at m;rw[List.getElem_take] at g;apply i j (by omega);rw[g,e];exact beq_self_eq_true c
theorem B5e{c:U_}{s:List U_}(h:O4 c s=none):∀d∈s,d≠c:=by
 unfold O4 at h
 split at h
 .rename_i a
  rw[List.findIdx?_eq_none_iff] at a;intro d b e;have:=a d b;rw[e,beq_self_eq_true] at this;cases this
 .cases h
theorem A7X{s a b:List U_}(h:O4 10 s=some (a,b)):J2 s=a::J2 b:=by
 obtain⟨rfl,c⟩:=B3V h;exact A6i b c
theorem A6A{s:List U_}(h:O4 10 s=none)(a:s≠[]):J2 s=[s]:=A6h (B5e h) a
end Wf
namespace Go.Proofs.YthhcpbfgoofppaaGreatDoor
open Go.RowKit Wf
def B2C(c:U_)(s:B_)(w:W_)(e:Ending)(w':W_):Prop:=Below w.heap.size w w' /\
 ((O4 c s.data.toList=none/\e=.returned (.tuple #[.string s,.string ⟨#[]⟩,.bool false])) \/
  (∃a b:B_,O4 c s.data.toList=some (a.data.toList,b.data.toList)/\a.size+b.size<s.size/\e=.returned (.tuple #[.string a,.string b,.bool true])))
theorem B9Z(s:B_)(c:U_)(p:s.size<=100000)(w:W_):Calls prog 13 #[.string s,.string ⟨#[c]⟩] w (B2C c s w):=by
 have b:=hid (B6V s c w);unfold B2C;have a:=Go.Lib.indexByte_ge s.data.toList c;have k:s.data.toList.length=s.size:=by simp
 by_cases hm:Go.Lib.indexByte s.data.toList c=-1
 .have f:=hid (B0p hm)
  rw[hm] at b;clear a hm k;go_enter func13,ntmps13;go_wp2_with fail;refine b.out.mono ?_;rintro e n⟨rfl,rfl⟩;go_wp2_with fail;go_ret3;exact⟨br_,.inl ⟨f.out,rfl⟩⟩
 .obtain⟨i,d⟩:∃i:Nat,Go.Lib.indexByte s.data.toList c=i:=⟨(Go.Lib.indexByte s.data.toList c).toNat,by omega⟩
  obtain⟨j,hlt⟩:=B0o d;rw[d] at b;have h:i<s.size:=by omega
  have m:(s.extract 0 i).data.toList=s.data.toList.take i:=by rw[A2D];simp
  have l:(s.extract (i+1) s.size).data.toList=s.data.toList.drop (i+1):=by rw[A2D,List.take_of_length_le (by omega)]
  have g:(s.extract 0 i).size+(s.extract (i+1) s.size).size<s.size:=by rw[ByteArray.size_extract,ByteArray.size_extract];omega
  have f:Hid (O4 c s.data.toList=some ((s.extract 0 i).data.toList,(s.extract (i+1) s.size).data.toList)):=hid (by rw[m,l];exact j);have o:=hid g;have z:(0:Int)<=i:=by omega
  have y:(i:Int)<=s.size:=by omega
  have t:(0:Int)<=i+1:=by omega
  have r:(i:Int)+1<=(s.size:Int):=by omega
  have q:IntKind.i64.wrap ((i:Int)+1)=(i:Int)+1:=by rw[IntKind.wrap_i64];omega
  clear a hm k d j hlt m l g;go_enter func13,ntmps13;go_wp2_with fail;refine b.out.mono ?_;rintro e n⟨rfl,rfl⟩;go_wp2_with fail;go_region;go_wp2;go_ret3;exact⟨M0 br_ 1,.inr ⟨_,_,f.out,o.out,rfl⟩⟩
theorem B8V(s:B_)(c:U_)(k:s.size<=100000)(w:W_):Calls prog 8 #[.string s,.string ⟨#[c]⟩] w (B2C c s w):=by
 have j:=hid (B9Z s c k w);unfold B2C at j ⊢;go_enter func8,ntmps8;go_wp2_with fail;refine j.out.mono ?_;rintro e m⟨f,⟨d,rfl⟩|⟨a,b,d,i,rfl⟩⟩
 .have h:=hid f
  have g:=hid d;clear f d;go_wp2_with fail;go_ret3;exact⟨h.out,.inl ⟨g.out,rfl⟩⟩
 .have h:=hid f
  have g:=hid d;have l:=hid i;clear f d i;go_wp2_with fail;go_ret3;exact⟨h.out,.inr ⟨a,b,g.out,l.out,rfl⟩⟩
