import Derived.Test.YthhcpbfgoofppaaGreatDoorGDs
import Derived.Test.YthhcpbfgoofppaaGreatDoorGRb
set_option linter.unusedVariables false
set_option linter.unusedSimpArgs false
open Wf
set_option maxRecDepth 100000
set_option maxHeartbeats 16000000
open Go.Lib (hid)
open Go.Proofs.Tryz hiding parts
namespace Wf
noncomputable def Z6(s:List U_)(a:List Mb)(k:Nat):List (Nat×Nat×Nat):=(a.take k).flatMap (r5 s)
def R1(on:Bool)(s:List U_)(a:List Mb)(k:Nat):Nat:=((a.take k).filter λx=>!on || r7 (S0 x.t).1 s).length
theorem A10{α:Type}{l:List α}{k:Nat}{x:α}(h:l[k]?=some x):l.take (k+1)=l.take k++[x]:=by
 rw[List.take_add_one,h];rfl
theorem A1j{s:List U_}{a:List Mb}{k:Nat}{q:Mb}(h:a[k]?=some q):Z6 s a (k+1)=Z6 s a k++r5 s q:=by
 unfold Z6;rw[A10 h];simp
theorem A1z{on:Bool}{s:List U_}{a:List Mb}{k:Nat}{q:Mb}(h:a[k]?=some q):R1 on s a (k+1)=R1 on s a k+if !on || r7 (S0 q.t).1 s then 1 else 0:=by
 unfold R1;rw[A10 h,List.filter_append,List.length_append]
 congr 1
 simp only[List.filter_cons,List.filter_nil]
 split <;> rfl
theorem B2K(on:Bool)(s:List U_)(a:List Mb)(k:Nat):R1 on s a k<=k:=by
 unfold R1;have:=List.length_filter_le (λx:Mb=>!on || r7 (S0 x.t).1 s) (a.take k);have b:(a.take k).length<=k:=by simp;omega
 omega
def B2L(n s:List U_)(a:Nat):Bool:=(List.range a).any λi=>n.isPrefixOf (s.drop i)
theorem A6S(n s:List U_)(a:Nat):B2L n s (a+1)=(B2L n s a || n.isPrefixOf (s.drop a)):=by
 unfold B2L;rw[List.range_succ,List.any_append];simp
theorem B4M(n s:List U_):B2L n s (s.length+1)=r7 n s:=rfl
def A0w(b:Nat)(a:List (Nat×Nat))(j:Nat):List (Nat×Nat×Nat):=(a.take j).map λp=>(b,p.1,p.2)
theorem A3A(d:Nat){c:List (Nat×Nat)}{j:Nat}{a b:Nat}(h:c[j]?=some (a,b)):A0w d c (j+1)=A0w d c j++[(d,a,b)]:=by
 unfold A0w;rw[A10 h];simp
theorem A4D(s:List U_)(q:Mb):A0w q.id (Y0 s q.t 0) (Y0 s q.t 0).length=r5 s q:=by
 unfold A0w r5;rw[List.take_length]
end Wf
namespace Go.Proofs.YthhcpbfgoofppaaGreatDoor.setW
open Go.RowKit Wf
theorem B3E(s:B_)(b:s.size<=400)(a:List Mb)(k:Nat):(Z6 s.data.toList a k).length<=401*k:=by
 induction k with
 | zero=>simp[Z6]
 | succ k ih =>
   cases h:a[k]? with
   | none =>
     have:Z6 s.data.toList a (k+1)=Z6 s.data.toList a k:=by
      unfold Z6;have:=List.getElem?_eq_none_iff.1 h;rw[List.take_of_length_le (by omega),List.take_of_length_le (by omega)]
     rw[this];omega
   | some q =>
     rw[A1j h,List.length_append];have:=A32 s q.t b;have c:(r5 s.data.toList q).length=(Y0 s.data.toList q.t 0).length:=by unfold r5;simp
     omega
theorem B2U{s p:B_}{a:Nat}(i:a<=s.size):(a+p.size<=s.size/\s.extract a (a+p.size)=p)↔p.data.toList.isPrefixOf (s.data.toList.drop a)=true:=by
 rw[List.isPrefixOf_iff_prefix,List.prefix_iff_eq_take];have c:(s.extract a (a+p.size)).data.toList=(s.data.toList.drop a).take p.size:=by simp[List.take_drop]
 have b:p.data.toList.length=p.size:=by simp
 have g:s.data.toList.length=s.size:=by simp
 rw[b,←c];constructor
 .rintro⟨_,h⟩
  rw[h]
 .intro h
  have d:s.extract a (a+p.size)=p:=ByteArray.ext (Array.toList_inj.1 h.symm);refine⟨?_,d⟩;have f:=congrArg List.length h;rw[c,List.length_take,List.length_drop,b,g] at f;omega
def A4M(s:B_)(a:Nat)(p:B_)(w:W_)(e:Ending)(w':W_):Prop:=e=.returned (.bool (p.data.toList.isPrefixOf (s.data.toList.drop a)))/\w=w'
theorem B3u(s p:B_)(a:Nat)(w:W_)(q:s.size<=400)(j:a<=s.size)(r:p.size<=400):Calls prog 63 #[.string s,.int .i64 a,.string p] w (A4M s a p w):=by
 have b:=B2U (s:=s) (p:=p) j;have o:(0:Int)<=a:=by omega
 have y:decide ((0:Int)<=a)=true:=by simp
 have g:IntKind.i64.wrap ((a:Int)+p.size)=(a:Int)+p.size:=IntWalk.i64_in _ (by omega);obtain⟨R,f⟩:∃R,R=p.data.toList.isPrefixOf (s.data.toList.drop a):=⟨_,rfl⟩
 unfold A4M;rw[←f] at b ⊢;have c:=hid b;clear b f;by_cases h:a+p.size<=s.size
 .have k:=dt_ ((a:Int)+p.size<=(s.size:Int))
  have n:(a:Int)+p.size<=(s.size:Int):=by omega
  have m:(a:Int)<=a+(p.size:Int):=by omega
  go_enter func63,ntmps63;go_wp2;go_ret
  have i:((s.extract a (a+p.size)).toList==p.toList)=R:=by
   rw[Bool.eq_iff_iff,Lib.bytes_beq_iff];exact⟨λd=>c.out.1 ⟨h,d⟩,λd=>(c.out.2 d).2⟩
  refine⟨?_,by first | rfl | trivial⟩;rw[←i]
  rfl
 .have k:=df_ ((a:Int)+p.size<=(s.size:Int))
  have t:=df_ (a+p.size<=s.size)
  have l:Hid (R=false):=hid (by
   cases hh:R with
   | false=>rfl
   | true=>exact absurd (c.out.2 hh).1 h)
  clear h;go_enter func63,ntmps63;go_wp2;go_ret;exact⟨by rw[l.out];rfl,by first | rfl | trivial⟩
theorem DK.app{B b n c:Nat}{w d f:W_}{e:TypeId}{v:V_}{k:List V_}(h:DK B b w d)(g:d.ownsRow w.heap.size e c v n k)(s:B<=w.heap.size)(a:d.grownBy f v.ownBlock):DK B b w f:=by
 have l:=h.bel.size;refine⟨⟨a.os.trans h.bel.os,a.tape.trans h.bel.tape,a.output.trans h.bel.output,Nat.le_trans l a.size,λi m=>(a.block i (by omega) λe=>by have:=(g.lt i e.symm).1;omega).trans (h.bel.block i m)⟩,λi cs t q p o j=>?_⟩;have r:=J0.lt j;exact(a.block i (by omega) λe=>by have:=(g.lt i e.symm).1;omega).trans (h.keep i cs t q p o j)
theorem P1.rdD{w:W_}{a:Nat}{v:V_}{l:List Nd}(h:P1 w a v l):q7 w v l:=by
 obtain⟨g,cap,k,rfl,n,i,f,m,d,c⟩:=h;refine⟨_,l.length,cap,rfl,i,f,N1 l,λ_=>⟨g,0,rfl,λj u b=>?_⟩⟩;rw[Nat.zero_add,J0.cell d];exact c j u b
theorem A5d(t:Rx):∀n∈A0 t,m6 n:=by
 intro n d;obtain⟨i,a,f⟩:=List.getElem_of_mem d;obtain⟨u,c⟩:=A3o t i a;obtain⟨m,b,_,g⟩:=c.node;rw[List.getElem?_eq_getElem a,f] at b;cases b;exact g
def A7r(m:SS)(s:List U_)(B b:Nat)(d c:V_)(a:List V_)(w:W_)(e:Ending)(w':W_):Prop :=
 ∃(A:Option Addr)(cap:Nat),e=.returned (.tuple #[.slice A (m.hits s).length cap,.int .i64 0])/\w'.ownsRow w.heap.size 70 3 (.slice A (m.hits s).length cap) (m.hits s).length ((m.hits s).flatMap Q0)/\o9 B b (m.scan s) d c a w'/\DK B b w w'
theorem B1E(b:Nat)(s:B_)(w:W_)(a:400<s.size):
 Calls prog 39 #[.pointer (some ⟨b,0,none⟩),.string s] w (λe w'=>e=.returned (.tuple #[.slice none 0 0,.int .i64 3])/\w=w'):=by
 have c:=dt_ ((400:Int)<s.size);go_enter func39,ntmps39;go_wp2;go_ret2;exact⟨rfl,by first | rfl | trivial⟩
theorem B75(B b:Nat)(m:SS)(AI AP:V_)(Y:List V_)(s:B_)(w:W_)(h:o9 B b m AI AP Y w)(hs:s.size<=400):
 Calls prog 39 #[.pointer (some ⟨b,0,none⟩),.string s] w (A7r m s.data.toList B b AI AP Y w):=by
 obtain⟨i0,bA,bv,bu,bt⟩:=info_parts A8s;have hd:=df_ ((400:Int)<s.size);obtain⟨A,cap,A2,d,rfl,rfl⟩:=h.form;have bM:=h.ok.len;obtain⟨L,hL⟩:∃L,L=s.data.toList:=⟨_,rfl⟩
 have bB:L.length=s.size:=by rw[hL];simp
 have cl:=hid bB;have cm:=hid hL;obtain⟨n,hn⟩:∃n,n=m.ms.length:=⟨_,rfl⟩
 have av:=hid hn;have bG:Hid (∀k,(Z6 L m.ms k).length<=401*k):=hid λk=>by rw[hL];exact B3E s hs m.ms k
 have ck:Hid (∀(q:Mb)(v:V_) W lo,q∈m.ms->P1 W lo v (A0 q.t)->Calls prog 62 #[v,.int .i64 0] W (B15 (S0 q.t) W)):=hid λq v W lo hq hr=>by
  obtain⟨_,_,bC,aB,_⟩:=T5 (h.ok.read q hq);obtain⟨g,cp,rfl,_⟩:=hr.form;exact B3y (A0 q.t) (A5d q.t) aB bC g 0 cp q.t 0 W (At.whole q.t) (P1.rdD hr)
 have bH:Hid (∀(q:Mb)(v:V_) W lo,q∈m.ms->P1 W lo v (A0 q.t)->Calls prog 64 #[v,.string s] W (A4r q.t L W)):=hid λq v W lo hq hr=>by
  obtain⟨_,_,bC,aB,_⟩:=T5 (h.ok.read q hq);obtain⟨g,cp,rfl,_⟩:=hr.form;rw[hL];exact A9g (A0 q.t) q.t rfl aB bC g 0 cp s hs W (P1.rdD hr)
 have bE:Hid (∀q:Mb,(Y0 L q.t 0).length<=401):=hid λq=>by rw[hL];exact A32 s q.t hs
 have cj:Hid (∀(p:B_)(a:Nat) W,a<=s.size->p.size<=60->Calls prog 63 #[.string s,.int .i64 a,.string p] W (A4M s a p W)):=hid λp a W h1 h2=>B3u s p a W hs h1 (by omega)
 have cU:=hid h.ok;have aW:=hid h.lastb;have aq:=h.hB;have cw:=h.lt;have f4:=h.blk.frozen 4;have t4:w.cell? ⟨b,4,none⟩=some (.int .i64 m.tried):=h.blk.cell 4;have aA:∀k,SS.ok { m with tried:=R1 m.on L m.ms k }:=λk=>⟨h.ok.len,h.ok.up,h.ok.pos,h.ok.read⟩
 have aP:=hid aA
 have bX:Hid (o9 B b { m with tried:=R1 m.on L m.ms 0 } (.slice A n cap) (.slice A2 n d) Y (w.setCell ⟨b,4,none⟩ (.int .i64 0))):=hid (by
  have:=h.put ({ m with tried:=R1 m.on L m.ms 0 }) rfl (aA 0) h.lastb 4 (.int .i64 0) (by simp[R1]);rw[←hn] at this;exact this)
 have bW:Hid (∀(A':Option Addr)(cp:Nat) (W:W_) (e:Ending),e=.returned (.tuple #[.slice A' (Z6 L m.ms n).length cp,.int .i64 0])->W.ownsRow w.heap.size 70 3 (.slice A' (Z6 L m.ms n).length cp) (Z6 L m.ms n).length ((Z6 L m.ms n).flatMap Q0)->o9 B b { m with tried:=R1 m.on L m.ms n } (.slice A n cap) (.slice A2 n d) Y W->DK B b w W->A7r m s.data.toList B b (.slice A m.ms.length cap) (.slice A2 m.ms.length d) Y w e W):=hid λA' cp W e h1 h2 h3 h4=>by
  have P:Z6 L m.ms n=m.hits s.data.toList:=by unfold Z6 SS.hits;rw[hn,List.take_length,hL]
  have e2:{ m with tried:=R1 m.on L m.ms n }=m.scan s.data.toList:=by
   unfold SS.scan SS.tries R1;rw[if_pos (by rw[←hL,bB];exact hs),hn,List.take_length,hL]
  rw[P] at h1 h2;rw[e2,hn] at h3;exact⟨A',cp,h1,h2,h3,h4⟩
 generalize hRR:A7r m s.data.toList B b (.slice A m.ms.length cap) (.slice A2 m.ms.length d) Y w=RR at *;rw[←hn] at bM;clear h hL bB aA hRR hn;go_enter func39,ntmps39;go_wp2_with fail
 go_loopw [6,7] (λv6 v7 wx=>∃k:Nat,k<=n/\v7=.int .i64 k/\Hid (wx.ownsRow w.heap.size 70 3 v6 (Z6 L m.ms k).length ((Z6 L m.ms k).flatMap Q0))/\Hid (o9 B b { m with tried:=R1 m.on L m.ms k } (.slice A n cap) (.slice A2 n d) Y wx)/\Hid (DK B b w wx)) (λ_ v _=>n - (intOf v).toNat)
 case atStart=>exact⟨0,by omega,rfl,hid (by simp[Z6];exact World.ownsRow_nil _ _ _ _),bX,hid (DK.set aq _ _ _)⟩
 case round =>
  clear bX f4 t4;obtain⟨k,hk,rfl,HO,HD,HK⟩:=hrel;rename World=>wo
  have r0:wo.cell? ⟨b,0,none⟩=some (.slice A n cap):=HD.out.blk.cell 0;have r1:wo.cell? ⟨b,1,none⟩=some (.slice A2 n d):=HD.out.blk.cell 1;have bw:w.heap.size<=wo.heap.size:=HK.out.bel.size;by_cases hkn:k<n
  .have d1:decide (k<n)=true:=by simpa using hkn
   have d2:=dt_ ((k:Int)<n);have cL:(0:Int)<=k:=by omega
   have cK:(k:Int)<n:=by omega
   have bn:k<m.ms.length:=by rw[←av.out];exact hkn
   obtain⟨q,hq⟩:∃q,m.ms[k]?=some q:=⟨_,List.getElem?_eq_getElem bn⟩
   have HQ:=hid hq;have bd:=hid (List.mem_of_getElem? hq);obtain⟨u,Z⟩:∃u,Y[k]?=some u:=⟨_,List.getElem?_eq_getElem (by rw[HD.out.rows.1,List.length_map];exact bn)⟩
   have ay:=HD.out.rows.2 k u (A0 q.t) Z (by rw[List.getElem?_map,hq];rfl);have HR:=hid ay
   have ap:Hid (∀W:W_,W.ownsRow B 73 1 (.slice A2 n d) n Y->∃E,A2=some ⟨E,0,none⟩/\W.cell? ⟨E,k,none⟩=some u):=hid λW hW=>by
    obtain⟨E,c',hv,_,_,_,_,hc⟩:=A2d hW (by omega);injection hv with P _ _
    exact⟨E,P,hc W rfl k u Z⟩
   have bP:wo.ownsRow B 73 1 (.slice A2 n d) n Y:=by have:=HD.out.pts;rw[←av.out] at this;exact this
   obtain⟨E,rfl,bR⟩:=ap.out wo bP;obtain⟨g1,G,rfl,cJ,cI,_,_,_,_⟩:=ay.form;obtain⟨N,hN⟩:∃N,N=(A0 q.t).length:=⟨_,rfl⟩
   rw[←hN] at HR bR ap
   have au:Hid (∀W:W_,W.ownsRow B 73 1 (.slice (some ⟨E,0,none⟩) n d) m.ms.length Y->W.cell? ⟨E,k,none⟩=some (.slice (some ⟨g1,0,none⟩) N G)):=hid λW hW=>by
    rw[←av.out] at hW;obtain⟨cO,P,h2⟩:=ap.out W hW;injection P with P
    injection P with P
    subst P;exact h2
   clear hq Z ay hN bP ap;go_wp2_with fail;refine(ck.out q _ wo B bd.out HR.out).mono ?_;rintro e D⟨nd,rfl,bL,ch,aF⟩;have f:=hid (HD.out.below aF);have aU:=hid (B7 HO.out aF);have bi:=hid (HK.out.trans (DK.of_below HD.out.hBw aF));have bF:=hid (HR.out.below aF);have bV:=hid bL;have bJ:w.heap.size<=D.heap.size:=bi.out.bel.size;clear aF bL r0 r1 HD HO HK HR bR;go_wp2_with fail
   go_loopw [9,10] (λv9 v10 wx=>∃(a:Nat)(r:Bool),a<=s.size+1/\v10=.int .i64 a/\v9=.bool r/\Hid (r=B2L (S0 q.t).1 L a)/\Hid (D=wx)) (λ_ v _=>s.size+1 - (intOf v).toNat)
   case atStart=>exact⟨0,false,by omega,rfl,rfl,hid (by simp[B2L]),hid (by first | rfl | trivial)⟩
   case round =>
    obtain⟨a,r,ha,rfl,rfl,bD,HW⟩:=hrel;have cg:=HW.out;subst cg;by_cases hal:a<s.size+1
    .have da:=dt_ ((a:Int)<=s.size)
     cases r with
     | true =>
       go_wp2_with fail;go_roundw
       case rel=>exact⟨a+1,true,by omega,by go_num,rfl,hid (by rw[A6S,←bD.out];rfl),hid (by first | rfl | trivial)⟩
       case measure=>simp[intOf];omega
     | false =>
       go_wp2_with fail;refine(cj.out nd a _ (by omega) ch).mono ?_;rintro e w3⟨rfl,cf⟩;subst cf;obtain⟨r2,bx⟩:∃r2,r2=nd.data.toList.isPrefixOf (s.data.toList.drop a):=⟨_,rfl⟩
       have HR2':=hid bx;rw[←bx];clear bx;go_wp2_with fail;go_roundw
       case rel=>exact⟨a+1,r2,by omega,by go_num,rfl,hid (by rw[A6S,←bD.out,HR2'.out,bV.out,cm.out];rfl),hid (by first | rfl | trivial)⟩
       case measure=>simp[intOf];omega
    .obtain rfl:a=s.size+1:=by omega
     have da:=df_ (((s.size+1:Nat):Int)<=(s.size:Int));have aM:Hid (r7 (S0 q.t).1 L=r):=hid (by rw[bD.out,←B4M,cl.out]);have r4:D.cell? ⟨b,4,none⟩=some (.int .i64 (R1 m.on L m.ms k:Int)):=f.out.blk.cell 4;have z4:D.frozen? ⟨b,4,none⟩=false:=f.out.blk.frozen 4;have r0:D.cell? ⟨b,0,none⟩=some (.slice A n cap):=f.out.blk.cell 0;have cH:=B2K m.on L m.ms k;cases r with
     | true =>
       have aL:Hid (R1 m.on L m.ms (k+1)=R1 m.on L m.ms k+1):=hid (by rw[A1z HQ.out,aM.out];simp)
       have J:Hid (o9 B b { m with tried:=R1 m.on L m.ms (k+1) } (.slice A n cap) (.slice (some ⟨E,0,none⟩) n d) Y (D.setCell ⟨b,4,none⟩ (.int .i64 ((R1 m.on L m.ms k:Int)+1)))):=hid (by
        have:=f.out.put ({ m with tried:=R1 m.on L m.ms (k+1) }) rfl (aP.out _) aW.out 4 (.int .i64 ((R1 m.on L m.ms k:Int)+1)) (by simp[aL.out]);exact this)
       have aZ:Hid (DK B b w (D.setCell ⟨b,4,none⟩ (.int .i64 ((R1 m.on L m.ms k:Int)+1)))):=hid (bi.out.trans (DK.set aq _ _ _));have aT:Hid ((D.setCell ⟨b,4,none⟩ (.int .i64 ((R1 m.on L m.ms k:Int)+1))).ownsRow w.heap.size 70 3 u6 (Z6 L m.ms k).length ((Z6 L m.ms k).flatMap Q0)):=hid (aU.out.kept (R3 D b 4 _) (.inr (C2 aU.out f.out.blk (by decide))));have aO:Hid (P1 (D.setCell ⟨b,4,none⟩ (.int .i64 ((R1 m.on L m.ms k:Int)+1))) B (.slice (some ⟨g1,0,none⟩) N G) (A0 q.t)):=hid (A0N bF.out f.out.blk (by decide));have aH:w.heap.size<=((D.setCell ⟨b,4,none⟩ (.int .i64 ((R1 m.on L m.ms k:Int)+1)))).heap.size:=by simp;omega
       have r1':D.cell? ⟨b,1,none⟩=some (.slice (some ⟨E,0,none⟩) n d):=f.out.blk.cell 1;have gk':D.cell? ⟨E,k,none⟩=some (.slice (some ⟨g1,0,none⟩) N G):=au.out _ f.out.pts;have ag:E≠b:=λe=>C2 f.out.pts f.out.blk (by decide) (by rw[e];rfl)
       have aE:b≠E:=λe=>ag e.symm
       have r1:((D.setCell ⟨b,4,none⟩ (.int .i64 ((R1 m.on L m.ms k:Int)+1)))).cell? ⟨b,1,none⟩=some (.slice (some ⟨E,0,none⟩) n d):=J.out.blk.cell 1;have gk:((D.setCell ⟨b,4,none⟩ (.int .i64 ((R1 m.on L m.ms k:Int)+1)))).cell? ⟨E,k,none⟩=some (.slice (some ⟨g1,0,none⟩) N G):=au.out _ J.out.pts;go_wp2_with fail;refine(bH.out q _ _ B bd.out aO.out).mono ?_;rintro e w4⟨SA,aa,rfl,ac,F⟩;have am:=hid (J.out.below F);have al:=hid (aZ.out.trans (DK.of_below J.out.hBw F));have T:=hid (B7 aT.out F);have S:=hid ac;have ax:=bE.out q;obtain⟨c,R⟩:∃c,c=Y0 L q.t 0:=⟨_,rfl⟩
       have O:=hid R;rw[←R] at S ax ⊢;clear F ac R;go_wp2_with fail;obtain⟨X,hX⟩:∃X,X=Z6 L m.ms k:=⟨_,rfl⟩
       have aK:=hid hX;have aw:=bG.out k;rw[←hX] at T aw;clear hX
       go_loopw [6,12] (λv6 v12 wx=>∃j:Nat,j<=c.length/\v12=.int .i64 j/\Hid (wx.ownsRow w.heap.size 70 3 v6 (X.length+j) (X.flatMap Q0++(A0w q.id c j).flatMap Q0))/\Hid (o9 B b { m with tried:=R1 m.on L m.ms (k+1) } (.slice A n cap) (.slice (some ⟨E,0,none⟩) n d) Y wx)/\Hid (DK B b w wx)/\Hid (wx.ownsRow w.heap.size 68 2 (.slice SA c.length aa) c.length (Z3 c))) (λ_ v _=>c.length - (intOf v).toNat)
       case atStart=>exact⟨0,by omega,rfl,hid (by have:=T.out;simpa[A0w] using this),am,al,hid (A1H S.out aH)⟩
       case round =>
        clear T am al S;obtain⟨j,hj,rfl,ak,C,V,aj⟩:=hrel;have q0:wr.cell? ⟨b,0,none⟩=some (.slice A n cap):=C.out.blk.cell 0;by_cases hjl:j<c.length
        .have dj:decide (j<c.length)=true:=by simpa using hjl
         have aI:=dt_ ((j:Int)<c.length);have bO:(0:Int)<=j:=by omega
         have bN:(j:Int)<c.length:=by omega
         obtain⟨A',c',hv,_,_,aD⟩:=A0v (Rd.of_own C.out.its);have P:A=A':=by injection hv
         clear hv;obtain⟨gi,oi,af,bq,ai⟩:=aD (by have:=av.out;show 0<m.ms.length;omega);rw[af] at P;clear af;subst P;obtain⟨bo,_⟩:=ai wr (λ_=>rfl) k q HQ.out;obtain⟨ba,bU,ab,_,_,aC⟩:=Y9 (Rd.of_own aj.out);have e2:SA=ba:=by injection ab
         clear ab;obtain⟨gs,os,ae,bp,ah⟩:=aC (by omega);rw[ae] at e2;clear ae;subst e2;obtain⟨⟨x,y⟩,Q⟩:∃p,c[j]?=some p:=⟨_,List.getElem?_eq_getElem hjl⟩
         obtain⟨s0,s1⟩:=ah wr (λ_=>rfl) j x y Q;have aJ:=hid Q
         have aV:Hid (∀(j:Nat)(u:V_),([.int .i64 q.id,.int .i64 x,.int .i64 y]:List V_)[j]?=some u ->
          (wr.alloc (.cells #[.int .i64 q.id,.int .i64 x,.int .i64 y] 70)).drew.cell? ((⟨wr.heap.size,0,none⟩:Addr).add j)=some u):=hid (by
          intro j u Z;rw[Z5,Nat.zero_add];have:=((J0.new wr 70 #[.int .i64 q.id,.int .i64 x,.int .i64 y]).drew).cell j;rw[this]
          simpa using Z)
         have aR:Hid (∀u∈([.int .i64 q.id,.int .i64 x,.int .i64 y]:List V_),u.oneCell'=true):=hid (by
          intro u Z;simp only[List.mem_cons,List.not_mem_nil,or_false] at Z;rcases Z with rfl|rfl|rfl <;> rfl)
         have o:=((Below.refl wr.heap.size wr).alloc (lr_ _) (.cells #[.int .i64 q.id,.int .i64 x,.int .i64 y] 70)).drew;have bY:=hid o;have i:=hid (B7 ak.out o);have H:=hid (C.out.below o);have aN:=hid (B7 aj.out o);have aY:=hid (V.out.trans (DK.of_below C.out.hBw o));have bw:w.heap.size<=wr.heap.size:=V.out.bel.size;clear o Q ah ai;go_wp2_with fail
         go_region_law (refine step_append_lies _ rfl (.tmp 79) (.tmp 93) 64 rfl w.heap.size 70 i0 _ 3 24 underlying64 bA bv bu bt rfl (by decide) _ (X.length+j) _ ?a1 i.out ⟨wr.heap.size,0,none⟩ 1 1 [.int .i64 q.id,.int .i64 x,.int .i64 y] ?a2 rfl aV.out aR.out ?a4 ?a5 ?a6 ?a7 _ rfl ?_;(case a1=>simp[Act.eval,Act.put]);(case a2=>simp[Act.eval,Act.put]);(case a4=>omega);(case a5=>unfold maxLen;omega);(case a6=>omega);(case a7=>simp;omega);intro g' bT w5 M hg hat ad;have aQ:=hid M;have z:=hid hg;clear M hg hat ad)
         all_goals (
          have a_:Hid (o9 B b { m with tried:=R1 m.on L m.ms (k+1) } _ _ Y w5):=hid ⟨aq,A2F H.out.blk i.out z.out (by decide),g9 H.out.its i.out z.out (by decide),g9 H.out.pts i.out z.out (by decide),H.out.rows.keep λu l hr=>A34 hr i.out z.out (by decide),aP.out _,aW.out⟩;have aX:Hid (DK B b w w5):=hid (aY.out.app i.out (by omega) z.out);go_wp2_with fail;go_roundw
          case rel=>exact⟨j+1,by omega,by go_num,hid (by rw[A3A q.id aJ.out];have:=aQ.out;simpa[Q0,Nat.add_assoc] using this),a_,aX,hid (g9 aN.out i.out z.out (by decide))⟩
          case measure=>simp[intOf];omega)
        .obtain rfl:j=c.length:=by omega
         have dj:decide (c.length<c.length)=false:=by simp
         have aI:decide ((c.length:Int)<(c.length:Int))=false:=by simp
         have aS:Hid (wr.ownsRow w.heap.size 70 3 u6 (Z6 L m.ms (k+1)).length ((Z6 L m.ms (k+1)).flatMap Q0)):=hid (by
          have P:A0w q.id c c.length=r5 L q:=by rw[O.out];exact A4D L q
          have h1:=ak.out;rw[P] at h1;rw[A1j HQ.out,List.flatMap_append,List.length_append,←aK.out];have e2:(r5 L q).length=c.length:=by rw[O.out];unfold r5;simp
          rw[e2];exact h1)
         go_wp2_with fail;go_roundw
         case rel=>exact⟨k+1,by omega,by go_num,aS,C,V⟩
         case measure=>simp[intOf];omega
     | false =>
       rcases Bool.eq_false_or_eq_true m.on with hon|hon
       .skip
        have r3:D.cell? ⟨b,3,none⟩=some (.bool true):=by have:=f.out.blk.cell 3;rw[←hon];exact this
        have aL:Hid (R1 m.on L m.ms (k+1)=R1 m.on L m.ms k+0):=hid (by rw[A1z HQ.out,aM.out];simp[hon]);clear hon;have J:Hid (o9 B b { m with tried:=R1 m.on L m.ms (k+1) } (.slice A n cap) (.slice (some ⟨E,0,none⟩) n d) Y D):=hid (by have:=f.out;rw[aL.out,Nat.add_zero];exact this);have aZ:=bi;have aT:=aU;have aO:=bF;have aH:w.heap.size<=(D).heap.size:=by exact bJ
        have r1':D.cell? ⟨b,1,none⟩=some (.slice (some ⟨E,0,none⟩) n d):=f.out.blk.cell 1;have gk':D.cell? ⟨E,k,none⟩=some (.slice (some ⟨g1,0,none⟩) N G):=au.out _ f.out.pts;have ag:E≠b:=λe=>C2 f.out.pts f.out.blk (by decide) (by rw[e];rfl)
        have aE:b≠E:=λe=>ag e.symm
        have r1:(D).cell? ⟨b,1,none⟩=some (.slice (some ⟨E,0,none⟩) n d):=J.out.blk.cell 1;have gk:(D).cell? ⟨E,k,none⟩=some (.slice (some ⟨g1,0,none⟩) N G):=au.out _ J.out.pts;go_wp2_with fail;refine(bH.out q _ _ B bd.out aO.out).mono ?_;rintro e w4⟨SA,aa,rfl,ac,F⟩;have am:=hid (J.out.below F);have al:=hid (aZ.out.trans (DK.of_below J.out.hBw F));have T:=hid (B7 aT.out F);have S:=hid ac;have ax:=bE.out q;obtain⟨c,R⟩:∃c,c=Y0 L q.t 0:=⟨_,rfl⟩
        have O:=hid R;rw[←R] at S ax ⊢;clear F ac R;go_wp2_with fail;obtain⟨X,hX⟩:∃X,X=Z6 L m.ms k:=⟨_,rfl⟩
        have aK:=hid hX;have aw:=bG.out k;rw[←hX] at T aw;clear hX
        go_loopw [6,12] (λv6 v12 wx=>∃j:Nat,j<=c.length/\v12=.int .i64 j/\Hid (wx.ownsRow w.heap.size 70 3 v6 (X.length+j) (X.flatMap Q0++(A0w q.id c j).flatMap Q0))/\Hid (o9 B b { m with tried:=R1 m.on L m.ms (k+1) } (.slice A n cap) (.slice (some ⟨E,0,none⟩) n d) Y wx)/\Hid (DK B b w wx)/\Hid (wx.ownsRow w.heap.size 68 2 (.slice SA c.length aa) c.length (Z3 c))) (λ_ v _=>c.length - (intOf v).toNat)
        case atStart=>exact⟨0,by omega,rfl,hid (by have:=T.out;simpa[A0w] using this),am,al,hid (A1H S.out aH)⟩
        case round =>
         clear T am al S;obtain⟨j,hj,rfl,ak,C,V,aj⟩:=hrel;have q0:wr.cell? ⟨b,0,none⟩=some (.slice A n cap):=C.out.blk.cell 0;by_cases hjl:j<c.length
         .have dj:decide (j<c.length)=true:=by simpa using hjl
          have aI:=dt_ ((j:Int)<c.length);have bO:(0:Int)<=j:=by omega
          have bN:(j:Int)<c.length:=by omega
          obtain⟨A',c',hv,_,_,aD⟩:=A0v (Rd.of_own C.out.its);have P:A=A':=by injection hv
          clear hv;obtain⟨gi,oi,af,bq,ai⟩:=aD (by have:=av.out;show 0<m.ms.length;omega);rw[af] at P;clear af;subst P;obtain⟨bo,_⟩:=ai wr (λ_=>rfl) k q HQ.out;obtain⟨ba,bU,ab,_,_,aC⟩:=Y9 (Rd.of_own aj.out);have e2:SA=ba:=by injection ab
          clear ab;obtain⟨gs,os,ae,bp,ah⟩:=aC (by omega);rw[ae] at e2;clear ae;subst e2;obtain⟨⟨x,y⟩,Q⟩:∃p,c[j]?=some p:=⟨_,List.getElem?_eq_getElem hjl⟩
          obtain⟨s0,s1⟩:=ah wr (λ_=>rfl) j x y Q;have aJ:=hid Q
          have aV:Hid (∀(j:Nat)(u:V_),([.int .i64 q.id,.int .i64 x,.int .i64 y]:List V_)[j]?=some u ->
           (wr.alloc (.cells #[.int .i64 q.id,.int .i64 x,.int .i64 y] 70)).drew.cell? ((⟨wr.heap.size,0,none⟩:Addr).add j)=some u):=hid (by
           intro j u Z;rw[Z5,Nat.zero_add];have:=((J0.new wr 70 #[.int .i64 q.id,.int .i64 x,.int .i64 y]).drew).cell j;rw[this]
           simpa using Z)
          have aR:Hid (∀u∈([.int .i64 q.id,.int .i64 x,.int .i64 y]:List V_),u.oneCell'=true):=hid (by
           intro u Z;simp only[List.mem_cons,List.not_mem_nil,or_false] at Z;rcases Z with rfl|rfl|rfl <;> rfl)
          have o:=((Below.refl wr.heap.size wr).alloc (lr_ _) (.cells #[.int .i64 q.id,.int .i64 x,.int .i64 y] 70)).drew;have bY:=hid o;have i:=hid (B7 ak.out o);have H:=hid (C.out.below o);have aN:=hid (B7 aj.out o);have aY:=hid (V.out.trans (DK.of_below C.out.hBw o));have bw:w.heap.size<=wr.heap.size:=V.out.bel.size;clear o Q ah ai;go_wp2_with fail
          go_region_law (refine step_append_lies _ rfl (.tmp 79) (.tmp 93) 64 rfl w.heap.size 70 i0 _ 3 24 underlying64 bA bv bu bt rfl (by decide) _ (X.length+j) _ ?a1 i.out ⟨wr.heap.size,0,none⟩ 1 1 [.int .i64 q.id,.int .i64 x,.int .i64 y] ?a2 rfl aV.out aR.out ?a4 ?a5 ?a6 ?a7 _ rfl ?_;(case a1=>simp[Act.eval,Act.put]);(case a2=>simp[Act.eval,Act.put]);(case a4=>omega);(case a5=>unfold maxLen;omega);(case a6=>omega);(case a7=>simp;omega);intro g' bT w5 M hg hat ad;have aQ:=hid M;have z:=hid hg;clear M hg hat ad)
          all_goals (
           have a_:Hid (o9 B b { m with tried:=R1 m.on L m.ms (k+1) } _ _ Y w5):=hid ⟨aq,A2F H.out.blk i.out z.out (by decide),g9 H.out.its i.out z.out (by decide),g9 H.out.pts i.out z.out (by decide),H.out.rows.keep λu l hr=>A34 hr i.out z.out (by decide),aP.out _,aW.out⟩;have aX:Hid (DK B b w w5):=hid (aY.out.app i.out (by omega) z.out);go_wp2_with fail;go_roundw
           case rel=>exact⟨j+1,by omega,by go_num,hid (by rw[A3A q.id aJ.out];have:=aQ.out;simpa[Q0,Nat.add_assoc] using this),a_,aX,hid (g9 aN.out i.out z.out (by decide))⟩
           case measure=>simp[intOf];omega)
         .obtain rfl:j=c.length:=by omega
          have dj:decide (c.length<c.length)=false:=by simp
          have aI:decide ((c.length:Int)<(c.length:Int))=false:=by simp
          have aS:Hid (wr.ownsRow w.heap.size 70 3 u6 (Z6 L m.ms (k+1)).length ((Z6 L m.ms (k+1)).flatMap Q0)):=hid (by
           have P:A0w q.id c c.length=r5 L q:=by rw[O.out];exact A4D L q
           have h1:=ak.out;rw[P] at h1;rw[A1j HQ.out,List.flatMap_append,List.length_append,←aK.out];have e2:(r5 L q).length=c.length:=by rw[O.out];unfold r5;simp
           rw[e2];exact h1)
          go_wp2_with fail;go_roundw
          case rel=>exact⟨k+1,by omega,by go_num,aS,C,V⟩
          case measure=>simp[intOf];omega
       .skip
        have r3:D.cell? ⟨b,3,none⟩=some (.bool false):=by have:=f.out.blk.cell 3;rw[←hon];exact this
        have aL:Hid (R1 m.on L m.ms (k+1)=R1 m.on L m.ms k+1):=hid (by rw[A1z HQ.out,aM.out];simp[hon]);clear hon
        have J:Hid (o9 B b { m with tried:=R1 m.on L m.ms (k+1) } (.slice A n cap) (.slice (some ⟨E,0,none⟩) n d) Y (D.setCell ⟨b,4,none⟩ (.int .i64 ((R1 m.on L m.ms k:Int)+1)))):=hid (by
         have:=f.out.put ({ m with tried:=R1 m.on L m.ms (k+1) }) rfl (aP.out _) aW.out 4 (.int .i64 ((R1 m.on L m.ms k:Int)+1)) (by simp[aL.out]);exact this)
        have aZ:Hid (DK B b w (D.setCell ⟨b,4,none⟩ (.int .i64 ((R1 m.on L m.ms k:Int)+1)))):=hid (bi.out.trans (DK.set aq _ _ _));have aT:Hid ((D.setCell ⟨b,4,none⟩ (.int .i64 ((R1 m.on L m.ms k:Int)+1))).ownsRow w.heap.size 70 3 u6 (Z6 L m.ms k).length ((Z6 L m.ms k).flatMap Q0)):=hid (aU.out.kept (R3 D b 4 _) (.inr (C2 aU.out f.out.blk (by decide))));have aO:Hid (P1 (D.setCell ⟨b,4,none⟩ (.int .i64 ((R1 m.on L m.ms k:Int)+1))) B (.slice (some ⟨g1,0,none⟩) N G) (A0 q.t)):=hid (A0N bF.out f.out.blk (by decide));have aH:w.heap.size<=((D.setCell ⟨b,4,none⟩ (.int .i64 ((R1 m.on L m.ms k:Int)+1)))).heap.size:=by simp;omega
        have r1':D.cell? ⟨b,1,none⟩=some (.slice (some ⟨E,0,none⟩) n d):=f.out.blk.cell 1;have gk':D.cell? ⟨E,k,none⟩=some (.slice (some ⟨g1,0,none⟩) N G):=au.out _ f.out.pts;have ag:E≠b:=λe=>C2 f.out.pts f.out.blk (by decide) (by rw[e];rfl)
        have aE:b≠E:=λe=>ag e.symm
        have r1:((D.setCell ⟨b,4,none⟩ (.int .i64 ((R1 m.on L m.ms k:Int)+1)))).cell? ⟨b,1,none⟩=some (.slice (some ⟨E,0,none⟩) n d):=J.out.blk.cell 1;have gk:((D.setCell ⟨b,4,none⟩ (.int .i64 ((R1 m.on L m.ms k:Int)+1)))).cell? ⟨E,k,none⟩=some (.slice (some ⟨g1,0,none⟩) N G):=au.out _ J.out.pts;go_wp2_with fail;refine(bH.out q _ _ B bd.out aO.out).mono ?_;rintro e w4⟨SA,aa,rfl,ac,F⟩;have am:=hid (J.out.below F);have al:=hid (aZ.out.trans (DK.of_below J.out.hBw F));have T:=hid (B7 aT.out F);have S:=hid ac;have ax:=bE.out q;obtain⟨c,R⟩:∃c,c=Y0 L q.t 0:=⟨_,rfl⟩
        have O:=hid R;rw[←R] at S ax ⊢;clear F ac R;go_wp2_with fail;obtain⟨X,hX⟩:∃X,X=Z6 L m.ms k:=⟨_,rfl⟩
        have aK:=hid hX;have aw:=bG.out k;rw[←hX] at T aw;clear hX
        go_loopw [6,12] (λv6 v12 wx=>∃j:Nat,j<=c.length/\v12=.int .i64 j/\Hid (wx.ownsRow w.heap.size 70 3 v6 (X.length+j) (X.flatMap Q0++(A0w q.id c j).flatMap Q0))/\Hid (o9 B b { m with tried:=R1 m.on L m.ms (k+1) } (.slice A n cap) (.slice (some ⟨E,0,none⟩) n d) Y wx)/\Hid (DK B b w wx)/\Hid (wx.ownsRow w.heap.size 68 2 (.slice SA c.length aa) c.length (Z3 c))) (λ_ v _=>c.length - (intOf v).toNat)
        case atStart=>exact⟨0,by omega,rfl,hid (by have:=T.out;simpa[A0w] using this),am,al,hid (A1H S.out aH)⟩
        case round =>
         clear T am al S;obtain⟨j,hj,rfl,ak,C,V,aj⟩:=hrel;have q0:wr.cell? ⟨b,0,none⟩=some (.slice A n cap):=C.out.blk.cell 0;by_cases hjl:j<c.length
         .have dj:decide (j<c.length)=true:=by simpa using hjl
          have aI:=dt_ ((j:Int)<c.length);have bO:(0:Int)<=j:=by omega
          have bN:(j:Int)<c.length:=by omega
          obtain⟨A',c',hv,_,_,aD⟩:=A0v (Rd.of_own C.out.its);have P:A=A':=by injection hv
          clear hv;obtain⟨gi,oi,af,bq,ai⟩:=aD (by have:=av.out;show 0<m.ms.length;omega);rw[af] at P;clear af;subst P;obtain⟨bo,_⟩:=ai wr (λ_=>rfl) k q HQ.out;obtain⟨ba,bU,ab,_,_,aC⟩:=Y9 (Rd.of_own aj.out);have e2:SA=ba:=by injection ab
          clear ab;obtain⟨gs,os,ae,bp,ah⟩:=aC (by omega);rw[ae] at e2;clear ae;subst e2;obtain⟨⟨x,y⟩,Q⟩:∃p,c[j]?=some p:=⟨_,List.getElem?_eq_getElem hjl⟩
          obtain⟨s0,s1⟩:=ah wr (λ_=>rfl) j x y Q;have aJ:=hid Q
          have aV:Hid (∀(j:Nat)(u:V_),([.int .i64 q.id,.int .i64 x,.int .i64 y]:List V_)[j]?=some u ->
           (wr.alloc (.cells #[.int .i64 q.id,.int .i64 x,.int .i64 y] 70)).drew.cell? ((⟨wr.heap.size,0,none⟩:Addr).add j)=some u):=hid (by
           intro j u Z;rw[Z5,Nat.zero_add];have:=((J0.new wr 70 #[.int .i64 q.id,.int .i64 x,.int .i64 y]).drew).cell j;rw[this]
           simpa using Z)
          have aR:Hid (∀u∈([.int .i64 q.id,.int .i64 x,.int .i64 y]:List V_),u.oneCell'=true):=hid (by
           intro u Z;simp only[List.mem_cons,List.not_mem_nil,or_false] at Z;rcases Z with rfl|rfl|rfl <;> rfl)
          have o:=((Below.refl wr.heap.size wr).alloc (lr_ _) (.cells #[.int .i64 q.id,.int .i64 x,.int .i64 y] 70)).drew;have bY:=hid o;have i:=hid (B7 ak.out o);have H:=hid (C.out.below o);have aN:=hid (B7 aj.out o);have aY:=hid (V.out.trans (DK.of_below C.out.hBw o));have bw:w.heap.size<=wr.heap.size:=V.out.bel.size;clear o Q ah ai;go_wp2_with fail
          go_region_law (refine step_append_lies _ rfl (.tmp 79) (.tmp 93) 64 rfl w.heap.size 70 i0 _ 3 24 underlying64 bA bv bu bt rfl (by decide) _ (X.length+j) _ ?a1 i.out ⟨wr.heap.size,0,none⟩ 1 1 [.int .i64 q.id,.int .i64 x,.int .i64 y] ?a2 rfl aV.out aR.out ?a4 ?a5 ?a6 ?a7 _ rfl ?_;(case a1=>simp[Act.eval,Act.put]);(case a2=>simp[Act.eval,Act.put]);(case a4=>omega);(case a5=>unfold maxLen;omega);(case a6=>omega);(case a7=>simp;omega);intro g' bT w5 M hg hat ad;have aQ:=hid M;have z:=hid hg;clear M hg hat ad)
          all_goals (
           have a_:Hid (o9 B b { m with tried:=R1 m.on L m.ms (k+1) } _ _ Y w5):=hid ⟨aq,A2F H.out.blk i.out z.out (by decide),g9 H.out.its i.out z.out (by decide),g9 H.out.pts i.out z.out (by decide),H.out.rows.keep λu l hr=>A34 hr i.out z.out (by decide),aP.out _,aW.out⟩;have aX:Hid (DK B b w w5):=hid (aY.out.app i.out (by omega) z.out);go_wp2_with fail;go_roundw
           case rel=>exact⟨j+1,by omega,by go_num,hid (by rw[A3A q.id aJ.out];have:=aQ.out;simpa[Q0,Nat.add_assoc] using this),a_,aX,hid (g9 aN.out i.out z.out (by decide))⟩
           case measure=>simp[intOf];omega)
         .obtain rfl:j=c.length:=by omega
          have dj:decide (c.length<c.length)=false:=by simp
          have aI:decide ((c.length:Int)<(c.length:Int))=false:=by simp
          have aS:Hid (wr.ownsRow w.heap.size 70 3 u6 (Z6 L m.ms (k+1)).length ((Z6 L m.ms (k+1)).flatMap Q0)):=hid (by
           have P:A0w q.id c c.length=r5 L q:=by rw[O.out];exact A4D L q
           have h1:=ak.out;rw[P] at h1;rw[A1j HQ.out,List.flatMap_append,List.length_append,←aK.out];have e2:(r5 L q).length=c.length:=by rw[O.out];unfold r5;simp
           rw[e2];exact h1)
          go_wp2_with fail;go_roundw
          case rel=>exact⟨k+1,by omega,by go_num,aS,C,V⟩
          case measure=>simp[intOf];omega
  .obtain rfl:k=n:=by omega
   have d1:decide (k<k)=false:=by simp
   have d2:decide ((k:Int)<k)=false:=by simp
   obtain⟨A',cp,rfl⟩:=B3D HO.out;go_wp2_with fail;exact bW.out _ _ _ _ rfl HO.out HD.out HK.out
