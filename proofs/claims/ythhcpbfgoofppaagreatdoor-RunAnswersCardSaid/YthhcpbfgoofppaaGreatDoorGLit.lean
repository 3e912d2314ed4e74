import Derived.Test.YthhcpbfgoofppaaGreatDoorGCls
import Derived.Laws.IdiomStrings
import Derived.OwnWalk
import Derived.LaidEql
import Derived.Stop.Asserts
import Derived.RowKitTokens
set_option linter.unusedVariables false
set_option linter.unusedSimpArgs false
open Wf
set_option maxRecDepth 100000
set_option maxHeartbeats 8000000
open Go.Lib (hid)
open Go.Proofs.Tryz hiding parts
namespace Go.Proofs.YthhcpbfgoofppaaGreatDoor
open Go.RowKit Wf
def B6Q(n:List U_×Bool)(w:W_)(e:Ending)(w':W_):Prop:=∃(s:B_)(x:Bool),e=.returned (.agg #[.string s,.bool x])/\s.data.toList=n.1/\x=n.2/\Below w.heap.size w w'
theorem B7m(b a:B_)(f d:Bool)(w:W_)(i:b.size<=60)(h:a.size<=60):
 Calls prog 115 #[.agg #[.string b,.bool f],.agg #[.string a,.bool d]] w (B6Q (A2s (b.data.toList,f) (a.data.toList,d)) w):=by
 have g:A2s (b.data.toList,f) (a.data.toList,d)=if f=true/\d=true then ((b++a).data.toList,true) else if a.size > b.size then (a.data.toList,false) else (b.data.toList,false):=by
  unfold A2s;rw[L0,t6,t6]
 have c:=hid g;clear g;cases f <;> cases d
 all_goals
  go_enter func115,ntmps115;go_wp2
 all_goals
  first
   | (have hlt:b.size<a.size:=(by assumption)
      refine bodyPost_ret (v:=.agg #[.string a,.bool false]) (by simp[results,results115,go_sem]) rfl ⟨a,false,rfl,?_,?_,?_⟩
      .rw[c.out];simp[hlt]
      .rw[c.out];simp[hlt]
      .exact(ba_.alloc (by simp) _).alloc (by simp;omega) _)
   | (have hlt:¬b.size<a.size:=(by assumption)
      refine bodyPost_ret (v:=.agg #[.string b,.bool false]) (by simp[results,results115,go_sem]) rfl ⟨b,false,rfl,?_,?_,?_⟩
      .rw[c.out];simp[hlt]
      .rw[c.out];simp[hlt]
      .exact(ba_.alloc (by simp) _).alloc (by simp;omega) _)
   | (refine bodyPost_ret (v:=.agg #[.string (b++a),.bool true]) (by simp[results,results115,go_sem]) rfl ⟨b++a,true,rfl,?_,?_,?_⟩
      .rw[c.out];simp
      .rw[c.out];simp
      .exact(ba_.alloc (by simp) _).alloc (by simp;omega) _)
theorem B7r(w:W_)(o a:Obj):Below w.heap.size w ((w.alloc o).alloc a):=ba_.alloc (by simp) _
def H8(l:List Nd)(m:Nat)(cs:Array V_):Prop :=
 cs.size=l.length*2/\(∀j,j<l.length->∃(s:B_)(x:Bool),cs[j*2]?=some (.string s)/\cs[j*2+1]?=some (.bool x)) /\
  (∀j,j<m->j<l.length->cs[j*2]?=some (.string ⟨#[]⟩)/\cs[j*2+1]?=some (.bool false)) /\
  ∀j u,m<=j->At l j u->∃s:B_,s.data.toList=(S0 u).1/\cs[j*2]?=some (.string s)/\cs[j*2+1]?=some (.bool (S0 u).2)
theorem H8.start(l:List Nd):H8 l l.length (madeCells #[.string ⟨#[]⟩,.bool false] (l.length*2)):=by
 have c:∀j,j<l.length->(madeCells #[.string ⟨#[]⟩,.bool false] (l.length*2))[j*2]?=some (.string ⟨#[]⟩):=by
  intro j a;have:j*2<l.length*2:=by omega
  simp[madeCells,this]
 have b:∀j,j<l.length->(madeCells #[.string ⟨#[]⟩,.bool false] (l.length*2))[j*2+1]?=some (.bool false):=by
  intro j a;have:j*2+1<l.length*2:=by omega
  have e:(j*2+1) % 2=1:=by omega
  simp[madeCells,this,e]
 refine⟨size_madeCells _ _,λj a=>⟨_,_,c j a,b j a⟩,λj _ a=>⟨c j a,b j a⟩,λj u a h=>?_⟩;have:=h.lt;have:=G0 u;omega
theorem A8v{cs:Array V_}{i j:Nat}{a b:V_}(c:i*2+1<cs.size):
 ((cs.setIfInBounds (i*2) a).setIfInBounds (i*2+1) b)[j*2]?=(if i=j then some a else cs[j*2]?) /\
 ((cs.setIfInBounds (i*2) a).setIfInBounds (i*2+1) b)[j*2+1]?=(if i=j then some b else cs[j*2+1]?):=by
 constructor
 .rw[Array.getElem?_setIfInBounds,if_neg (by omega),Array.getElem?_setIfInBounds]
  by_cases e:i=j
  .rw[if_pos (by omega),if_pos e,if_pos (by first | omega | (simp;omega))]
  .rw[if_neg (by omega),if_neg e]
 .rw[Array.getElem?_setIfInBounds,Array.getElem?_setIfInBounds]
  by_cases e:i=j
  .rw[if_pos (by omega),if_pos e,if_pos (by first | omega | (simp;omega))]
  .rw[if_neg (by omega),if_neg (by omega),if_neg e]
theorem H8.step{l:List Nd}{i:Nat}{cs:Array V_}{u:Rx}(h:H8 l (i+1) cs)(k:At l i u)(s:B_)(x:Bool)(n:s.data.toList=(S0 u).1)(m:x=(S0 u).2):
 H8 l i ((cs.setIfInBounds (i*2) (.string s)).setIfInBounds (i*2+1) (.bool x)):=by
 obtain⟨q,p,r,o⟩:=h;have hlt:=k.lt;have t:=G0 u;have c:=λj=>A8v (cs:=cs) (i:=i) (j:=j) (a:=.string s) (b:=.bool x) (by omega)
 refine⟨by simpa using q,λj f=>?_,λj f d=>?_,λj v f g=>?_⟩
 .rw[(c j).1,(c j).2]
  by_cases e:i=j
  .rw[if_pos e,if_pos e];exact⟨_,_,rfl,rfl⟩
  .rw[if_neg e,if_neg e];exact p j f
 .rw[(c j).1,(c j).2,if_neg (by omega),if_neg (by omega)]
  exact r j (by omega) d
 .rw[(c j).1,(c j).2]
  by_cases e:i=j
  .subst e
   rw[if_pos rfl,if_pos rfl,g.inj k];exact⟨s,n,rfl,by rw[m]⟩
  .rw[if_neg e,if_neg e]
   exact o j v (by omega) g
theorem H8.stepB{l:List Nd}{i:Nat}{cs:Array V_}{u:Rx}(h:H8 l (i+1) cs)(b:At l i u)(f:(S0 u).1=[])(d:(S0 u).2=true):
 H8 l i (cs.setIfInBounds (i*2+1) (.bool true)):=by
 have hlt:=b.lt;have j:=G0 u;have g:=(h.2.2.1 i (by omega) (by omega)).1
 have e:cs=cs.setIfInBounds (i*2) (.string ⟨#[]⟩):=by
  apply Array.ext_getElem?;intro k;rw[Array.getElem?_setIfInBounds]
  split
  .rename_i c;subst c;split
   .exact g
   .rename_i c;rw[Array.getElem?_eq_none (by omega)]
  .rfl
 have a:=H8.step h b ⟨#[]⟩ true (by rw[f]) d.symm;rw[←e] at a;exact a
theorem H8.skip{l:List Nd}{i:Nat}{cs:Array V_}{u:Rx}(h:H8 l (i+1) cs)(c:At l i u)(f:S0 u=([],false)):H8 l i cs:=by
 obtain⟨n,m,d,k⟩:=h;have hlt:=c.lt;have o:=G0 u;refine⟨n,m,λj g a=>d j (by omega) a,λj v g b=>?_⟩;by_cases e:j=i
 .subst e
  rw[b.inj c,f];have:=d j (by omega) (by omega);exact⟨⟨#[]⟩,rfl,this.1,this.2⟩
 .exact k j v (by omega) b
def NV(w:W_)(g:Nat)(a:List Nat)(cs:Array V_)(w':W_):Prop :=
 J0 w' (w.heap.size+1) 138 cs/\J0 w' w.heap.size 138 #[.string ⟨#[]⟩,.bool false]/\(∀(j x:Nat),a[j]?=some x->w'.cell? ⟨g,j,none⟩=some (.int .i64 x))/\Below w.heap.size w w'
theorem NV.kept{w a d:W_}{g:Nat}{c:List Nat}{cs:Array V_}(h:NV w g c cs a)(b:Below a.heap.size a d):NV w g c cs d :=
 ⟨h.1.kept b,h.2.1.kept b,λj x f=>by
   have:=h.2.2.1 j x f;rw[b.cell (p:=⟨g,j,none⟩) (World.block_lt_of_cell? a _ this)];exact this,h.2.2.2.trans (b.mono h.2.2.2.size)⟩
theorem NV.set_{w a:W_}{g:Nat}{b:List Nat}{cs:Array V_}(h:NV w g b cs a)(d:g≠w.heap.size+1)(k:Nat)(v:V_):NV w g b (cs.setIfInBounds k v) (a.setCell ⟨w.heap.size+1,k,none⟩ v) :=
 ⟨h.1.set_ k v,h.2.1.far (by show w.heap.size≠w.heap.size+1;omega) v,λj x c=>by
   have:=h.2.2.1 j x c;rw[World.cell?_of_block (Below.heap_setCell a _ v g (by show g≠w.heap.size+1;exact d))];exact this,h.2.2.2.setCell (by show w.heap.size<=w.heap.size+1;omega) v⟩
def NVx(w:W_)(g:Nat)(a:List Nat)(cs:Array V_)(i:Nat)(w':W_):Prop :=
 NV w g a cs w'\/∃(w0:W_)(s:B_) (x:Bool),w'=(w0.setCell ⟨w.heap.size+1,i*2,none⟩ (.string s)).setCell ⟨w.heap.size+1,i*2+1,none⟩ (.bool x)/\NV w g a cs w0
theorem A62(a:Nat)(c:a<256)(w:W_):(convert 30 9 (.slice (some ⟨w.heap.size,0,none⟩) 1 1)).run prog (w.alloc (.cells #[.int .u8 a] 5))=.ok (.string ⟨#[UInt8.ofNat a]⟩) (w.alloc (.cells #[.int .u8 a] 5)):=by
 have h:=run_convert_bytes_back (P:=prog) (w.alloc (.cells #[.int .u8 a] 5)) 30 9 5 ⟨w.heap.size,0,none⟩ 1 [UInt8.ofNat a] underlying30 underlying5 underlying9 (by
  intro j b;have:j=0:=by simpa using b
  subst this;have e:(UInt8.ofNat a).toNat=a:=by simp;omega
  rw[Z5,Nat.add_zero,(J0.new w 5 #[.int .u8 a]).cell 0];simp[Nat.mod_eq_of_lt c])
 exact h
theorem B3B:(prog.info? 138).map (λi=>(i.zero,i.size,i.bytes))=some (some (.agg #[.string ⟨#[]⟩,.bool false]),2,24):=by kernel_rfl
theorem B4q(n:Nat)(h:n<=100000)(w:W_):(Instr.makeSlice 190 (.int .i64 n) (.int .i64 n)).run prog w=.ok (.slice (some ⟨w.heap.size,0,none⟩) n n) (w.alloc (.cells (madeCells #[.string ⟨#[]⟩,.bool false] (n*2)) 138)):=by
 obtain⟨i,d,b,c,f⟩:=info_parts B3B;have a:=run_make (P:=prog) w 190 138 i _ underlying190 d b .i64 .i64 n n (by omega) (by omega) (by rw[f];omega) (by omega);simp only[Int.toNat_natCast,c] at a;exact a
theorem B4p(l:List Nd)(t:Rx)(hl:l=A0 t)(aJ:∀n∈l,P5 n.cls)(v:V_)(w:W_)(ht:l.length<=60)(hr:q7 w v l):Calls prog 76 #[v] w (B6Q (S0 t) w):=by
 obtain⟨A,cap,rfl,bC,bl,ah⟩:=hr.open_;have aI:0<l.length:=by rw[hl];exact G0 t
 have ao:∀i,i<l.length->∃u,At l i u:=λi hi=>by subst hl;exact A3o t i hi
 have X:∀cs,H8 l 0 cs->∃s:B_,s.data.toList=(S0 t).1/\cs[0]?=some (.string s)/\cs[1]?=some (.bool (S0 t).2):=λcs h=>h.2.2.2 0 t (by omega) (by rw[hl];exact At.whole t)
 have f:∀W,q7 W (.slice A l.length cap) l->Calls prog 113 #[.slice A l.length cap] W (B6Z l W):=λW h=>B6Y l t hl _ W ht h
 obtain⟨b,bS,rfl,bn,L⟩:=ah aI;have aT:∀o o',Below w.heap.size w ((w.alloc o).alloc o'):=λo o'=>B7r w o o'
 have HD:=hid X;have HA:=hid ao;have HC:=hid L;have HR:=hid hr;have HE:=hid f;have bs:=hid aJ;have a_:=hid aT;clear X ao L hr ah f hl aJ aT;have D:=hid (H8.start l);have aN:=λW=>B4q l.length (by omega) W
 obtain⟨aU,am⟩:∃cs,cs=madeCells #[.string ⟨#[]⟩,.bool false] (l.length*2):=⟨_,rfl⟩
 rw[←am] at aN D;clear am;go_enter func76,ntmps76;go_wp2_with fail;refine(HE.out _ (HR.out.below (a_.out _ _))).mono ?_;rintro e w2⟨g,P,rfl,aG,aQ,bk,aF,ab⟩;have ak:g≠w.heap.size+1:=by simp at aQ;omega
 have aK:NV w g P aU w2:=⟨(J0.new2 _ _ _ _).kept ab,((J0.new _ _ _).alloc _).kept ab,aF,(a_.out _ _).trans (ab.mono (by simp;omega))⟩
 have bo:=hid aG;have k:=hid aK;have G:=hid ak;clear aG aF aK aN aQ bk ab ak;go_wp2_with fail
 go_loopw [5] (λv5 wr=>∃(m:Nat)(cs:Array V_),m<=l.length/\v5=.int .i64 ((m:Int) - 1)/\Hid (H8 l m cs)/\Hid (NV w g P cs wr)) (λi _=>(intOf i+1).toNat)
 case atStart=>exact⟨l.length,aU,by omega,rfl,D,k⟩
 case round =>
  clear k D;obtain⟨m,cs,hm,ax,HM,k⟩:=hrel;rcases m with _|i
  .obtain rfl:u5=.int .i64 (-1):=ax
   obtain⟨s,hs,Z,S⟩:=HD.out cs HM.out;have g0:wr.cell? ⟨w.heap.size+1,0,none⟩=some (.string s):=by rw[k.out.1.cell];exact Z
   have g1:wr.cell? ⟨w.heap.size+1,1,none⟩=some (.bool (S0 t).2):=by rw[k.out.1.cell];exact S
   have r0:wr.cell? ⟨w.heap.size,0,none⟩=some (.string ⟨#[]⟩):=by rw[k.out.2.1.cell];rfl
   have r1:wr.cell? ⟨w.heap.size,1,none⟩=some (.bool false):=by rw[k.out.2.1.cell];rfl
   have z0:=k.out.2.1.frozen 0;have z1:=k.out.2.1.frozen 1;have hpos':(0:Int)<l.length:=by omega
   have bp:=hid hs;clear hs Z S HM;generalize hx:(S0 t).2=x at *;go_wp2;have hk:=((k.out.2.1.set_ 0 (.string s)).set_ 1 (.bool x))
   refine bodyPost_ret (v:=.agg #[.string s,.bool x]) ?_ rfl ⟨s,x,rfl,bp.out,hx.symm,?_⟩
   .have k0:=hk.cell 0
    have k1:=hk.cell 1;simp at k0 k1;simp[results,results76,go_sem,k0,k1]
   .exact(k.out.2.2.2.setCell (lr_ _) _).setCell (lr_ _) _
  .obtain rfl:u5=.int .i64 i:=by rw[ax];congr 1;omega
   clear ax;have aj:i<l.length:=by omega
   obtain⟨u,B⟩:=HA.out i aj;have r:=HC.out wr (λo=>k.out.2.2.2.cell (p:=⟨b,o,none⟩) bn) i;have d:∀(j:Nat)(x:V_),cs[j]?=some x->wr.cell? ⟨w.heap.size+1,j,none⟩=some x:=λj x h=>by rw[k.out.1.cell];exact h
   have q:=HM.out.2.2.2;have C:i+(A0 u).length<=l.length:=B.lt;have T:=λs x y h2=>H8.step HM.out B s x y h2
   have J:=λy h2=>H8.stepB HM.out B y h2
   have V:=λh=>H8.skip HM.out B h
   have f:=bo.out.2;obtain⟨os,ox,R,Q⟩:=HM.out.2.1 i aj;have aq:=d _ _ R;have ap:=d _ _ Q;have au:=k.out.1.frozen (i*2);have ar:=k.out.1.frozen (i*2+1);have O:=hid V;have aD:=hid T;have bq:=hid J;clear V T J HC HA;cases u with
   | bgn =>
     obtain⟨F,_⟩:=r _ B.bgn;dsimp only at F;clear r q f d B C R Q;go_wp2;go_roundw
     case rel=>exact⟨i,cs,by omega,by go_num,hid (O.out rfl),k⟩
     case measure=>simp[intOf]
   | fin =>
     obtain⟨F,_⟩:=r _ B.fin;dsimp only at F;clear r q f d B C R Q;go_wp2;go_roundw
     case rel=>exact⟨i,cs,by omega,by go_num,hid (O.out rfl),k⟩
     case measure=>simp[intOf]
   | star a =>
     obtain⟨F,_⟩:=r _ B.star.1;dsimp only at F;clear r q f d B C R Q;go_wp2;go_roundw
     case rel=>exact⟨i,cs,by omega,by go_num,hid (O.out rfl),k⟩
     case measure=>simp[intOf]
   | opt a =>
     obtain⟨F,_⟩:=r _ B.opt.1;dsimp only at F;clear r q f d B C R Q;go_wp2;go_roundw
     case rel=>exact⟨i,cs,by omega,by go_num,hid (O.out rfl),k⟩
     case measure=>simp[intOf]
   | alt a b' =>
     obtain⟨F,_⟩:=r _ B.alt.1;dsimp only at F;clear r q f d B C R Q;go_wp2;go_roundw
     case rel=>exact⟨i,cs,by omega,by go_num,hid (O.out rfl),k⟩
     case measure=>simp[intOf]
   | empty =>
     obtain⟨F,_⟩:=r _ B.empty;dsimp only at F;clear r q f d B C R Q;go_wp2;go_roundw
     case rel=>exact⟨i,_,by omega,by go_num,hid (bq.out rfl rfl),hid (k.out.set_ G.out _ _)⟩
     case measure=>simp[intOf]
   | plus a =>
     obtain⟨hn,y⟩:=B.plus;obtain⟨F,_⟩:=r _ hn;obtain⟨sa,M,ca,_⟩:=q (i+1) a (by omega) y;have S:=d _ _ ca;have l1:=y.lt;have p1:=G0 a;have br:=hid M;dsimp only at F;clear r q f d B y hn M ca R Q;go_wp2;go_roundw
     case rel=>exact⟨i,_,by omega,by go_num,hid (aD.out sa false br.out rfl),hid ((k.out.set_ G.out _ _).set_ G.out _ _)⟩
     case measure=>simp[intOf]
   | byte c =>
     obtain⟨F,q1,q2,q3,q4⟩:=r _ B.byte;have hc:=bs.out _ (List.mem_of_getElem? B.byte);obtain⟨Z,S,c2,c3⟩:=c;dsimp only at F q1 q2 q3 q4 hc;have ai:S0 (.byte (Z,S,c2,c3))=if B6 (Z,S,c2,c3)=1 then ([UInt8.ofNat (R7 (Z,S,c2,c3) 0)],true) else ([],false):=rfl
     have aE:=hid ai;have ae:=hid λW=>A5v Z S c2 c3 W hc
     have O0:=hid R;have O1:=hid Q;clear r q f d B C ai hc R Q;by_cases y:B6 (Z,S,c2,c3)=1
     .have H1:=hid y
      have HO:Hid (∀W,Calls prog 114 #[.agg #[.int .u64 Z,.int .u64 S,.int .u64 c2,.int .u64 c3]] W (λe w'=>∃g:Nat,e=.returned (.tuple #[.int .u8 g,.bool true])/\g=R7 (Z,S,c2,c3) 0/\g<256/\Below W.heap.size W w')):=hid λW=>(ae.out W).mono (by
       rintro e w' (⟨b,e1,z,e3,e4,e5⟩|⟨_,h,_⟩)
       .exact⟨b,e1,e3,e4,e5⟩
       .exact absurd y h)
      clear y ae aq ap au ar;have o0':=O0.out;have o1':=O1.out
      go_wp2_with (go_at_call 114;refine(HO.out _).mono ?_;rintro e w3⟨bb,rfl,aS,aO,Y⟩;have bt:=hid aS;have aL:=(k.out.kept Y);have H:=hid (λo=>aL.kept (br_.alloc (lr_ _) o));clear aL;have bY:=A62 bb aO w3;have cb:=(λo=>((H.out o).1.cell (i*2)).trans o0');have b_:=(λo=>((H.out o).1.cell (i*2+1)).trans o1');have cd:=(λo=>(H.out o).1.frozen (i*2));have cc:=(λo=>(H.out o).1.frozen (i*2+1));clear aS Y HO o0' o1')
      go_roundw
      case rel=>exact⟨i,_,by omega,by go_num,hid (aD.out ⟨#[UInt8.ofNat bb]⟩ true (by rw[aE.out,if_pos H1.out,bt.out]) (by rw[aE.out,if_pos H1.out])),hid (((H.out _).set_ G.out _ _).set_ G.out _ _)⟩
      case measure=>simp[intOf]
     .have HO:Hid (∀W,Calls prog 114 #[.agg #[.int .u64 Z,.int .u64 S,.int .u64 c2,.int .u64 c3]] W (λe w'=>e=.returned (.tuple #[.int .u8 0,.bool false])/\Below W.heap.size W w')):=hid λW=>(ae.out W).mono (by
       rintro e w' (⟨b,e1,z,e3,e4,e5⟩|⟨h,_,h'⟩)
       .exact absurd z y
       .exact⟨h,h'⟩)
      have aW:=hid (O.out (by rw[aE.out,if_neg y]));clear y ae
      go_wp2_with (go_at_call 114;refine(HO.out _).mono ?_;rintro e w3⟨rfl,Y⟩;have H:=hid (k.out.kept Y);clear Y HO)
      go_roundw
      case rel=>exact⟨i,cs,by omega,by go_num,aW,H⟩
      case measure=>simp[intOf]
   | cat a b' =>
     obtain⟨hn,y,h2⟩:=B.cat;obtain⟨F,_⟩:=r _ hn;obtain⟨sa,M,aC,aB⟩:=q (i+1) a (by omega) y;have ce:=f (i+1) a y;obtain⟨sb,ay,ad,ac⟩:=q (i+1+(A0 a).length) b' (by omega) h2;have l1:=y.lt;have l2:=h2.lt;have p1:=G0 a;have p2:=G0 b';have za:sa.size<=60:=by rw[t6,M];have:=A2A a;omega
     have zb:sb.size<=60:=by rw[t6,ay];have:=A2A b';omega
     obtain⟨z,aR⟩:∃z,z=i+1+(A0 a).length:=⟨_,rfl⟩
     rw[←aR] at ce ad ac l2;have bA:z<l.length:=by omega
     have bB:i+1<z:=by omega
     have aY:Hid (S0 (.cat a b')=A2s (sa.data.toList,(S0 a).2) (sb.data.toList,(S0 b').2)):=hid (by rw[M,ay];rfl)
     have aZ:Hid (∀w',Hid (NV w g P cs w')->Calls prog 115 #[.agg #[.string sa,.bool (S0 a).2],.agg #[.string sb,.bool (S0 b').2]] w' (λe w2=>∃(s:B_)(x:Bool),e=.returned (.agg #[.string s,.bool x])/\Hid (s.data.toList=(S0 (.cat a b')).1/\x=(S0 (.cat a b')).2)/\Hid (NV w g P cs w2))):=hid λw' h=>(B7m sa sb _ _ w' za zb).mono (by
      rintro e w2⟨s,x,e1,z,e3,e4⟩;exact⟨s,x,e1,hid ⟨by rw[aY.out,z],by rw[aY.out,e3]⟩,hid (h.out.kept e4)⟩)
     have E:∀w',NV w g P cs w'->(w'.cell? ⟨w.heap.size+1,(i+1)*2,none⟩=some (.string sa)/\w'.cell? ⟨w.heap.size+1,(i+1)*2+1,none⟩=some (.bool (S0 a).2)/\w'.cell? ⟨g,i+1,none⟩=some (.int .i64 z)/\w'.cell? ⟨w.heap.size+1,z*2,none⟩=some (.string sb)/\w'.cell? ⟨w.heap.size+1,z*2+1,none⟩=some (.bool (S0 b').2)):=λw' h =>
      ⟨(h.1.cell _).trans aC,(h.1.cell _).trans aB,h.2.2.1 _ _ ce,(h.1.cell _).trans ad,(h.1.cell _).trans ac⟩
     have az:=G.out
     have N:∀w',Hid (NVx w g P cs i w')->(w'.cell? ⟨w.heap.size+1,(i+1)*2,none⟩=some (.string sa)/\w'.cell? ⟨w.heap.size+1,(i+1)*2+1,none⟩=some (.bool (S0 a).2)/\w'.cell? ⟨g,i+1,none⟩=some (.int .i64 z)/\w'.cell? ⟨w.heap.size+1,z*2,none⟩=some (.string sb)/\w'.cell? ⟨w.heap.size+1,z*2+1,none⟩=some (.bool (S0 b').2)):=λw' h=>by
      rcases h.out with h0|⟨w0,s,x,rfl,h0⟩
      .exact E w' h0
      .have y:=(h0.set_ az (i*2) (.string s)).set_ az (i*2+1) (.bool x)
       have bj:i*2+1<cs.size:=by have:=HM.out.1;omega
       have hq:=λj=>A8v (cs:=cs) (i:=i) (j:=j) (a:=.string s) (b:=.bool x) bj
       refine⟨(y.1.cell _).trans ?_,(y.1.cell _).trans ?_,y.2.2.1 _ _ ce,(y.1.cell _).trans ?_,(y.1.cell _).trans ?_⟩
       .rw[(hq (i+1)).1,if_neg (by omega)];exact aC
       .rw[(hq (i+1)).2,if_neg (by omega)];exact aB
       .rw[(hq z).1,if_neg (by omega)];exact ad
       .rw[(hq z).2,if_neg (by omega)];exact ac
     have hS:∀w',Hid (NVx w g P cs i w')->(w'.cell? ⟨w.heap.size+1,(i+1)*2,none⟩=some (.string sa)/\w'.cell? ⟨w.heap.size+1,(i+1)*2+1,none⟩=some (.bool (S0 a).2)/\w'.cell? ⟨g,i+1,none⟩=some (.int .i64 z)/\w'.cell? ⟨w.heap.size+1,z*2,none⟩=some (.string sb)/\w'.cell? ⟨w.heap.size+1,z*2+1,none⟩=some (.bool (S0 b').2)/\Hid (NVx w g P cs i w')):=λw' h=>⟨(N w' h).1,(N w' h).2.1,(N w' h).2.2.1,(N w' h).2.2.2.1,(N w' h).2.2.2.2,h⟩
     have HS:=hid hS;have cl:Hid (NV w g P cs wr.drew):=hid (k.out.kept br_.drew);have aV:Hid (∀w',NV w g P cs w'->(w'.cell? ⟨w.heap.size+1,i*2,none⟩=some (.string os)/\w'.cell? ⟨w.heap.size+1,i*2+1,none⟩=some (.bool ox)/\w'.frozen? ⟨w.heap.size+1,i*2,none⟩=false/\w'.frozen? ⟨w.heap.size+1,i*2+1,none⟩=false)):=hid λw' h=>⟨(h.1.cell _).trans R,(h.1.cell _).trans Q,h.1.frozen _,h.1.frozen _⟩
     have d1:(i:Int)+1<(l.length:Int):=by omega
     have d2:(z:Int)<l.length:=by omega
     have d3:(i:Int)<l.length:=by omega
     have d4:(0:Int)<=i+1:=by omega
     have bV:IntKind.i64.wrap ((i:Int)+1)=(i:Int)+1:=IntWalk.i64_in _ (by omega);have d5:(0:Int)<=z:=by omega
     have d6:(0:Int)<=i:=by omega
     have HX:Hid (NVx w g P cs i wr):=hid (.inl k.out);obtain⟨f0,f1,f2,f3,f4⟩:=E wr k.out;dsimp only at F;clear r q f d B y h2 hn M ay aC aB ad ac R Q hS N E ce aR aq ap au ar az HM;generalize (S0 a).2=xa at *;generalize (S0 b').2=xb at *;go_wp2_with fail
     go_region_held3 (λw'=>w'.cell? ⟨w.heap.size+1,(i+1)*2,none⟩=some (.string sa)/\w'.cell? ⟨w.heap.size+1,(i+1)*2+1,none⟩=some (.bool xa)/\w'.cell? ⟨g,i+1,none⟩=some (.int .i64 z)/\w'.cell? ⟨w.heap.size+1,z*2,none⟩=some (.string sb)/\w'.cell? ⟨w.heap.size+1,z*2+1,none⟩=some (.bool xb)/\Hid (NVx w g P cs i w'))
      (exact HS.out _ (by first | exact hid (.inl (Hid.out (by assumption))) | exact hid (.inr ⟨_,_,_,rfl,Hid.out (by assumption)⟩)))
      (first | (go_at_call 115;refine(aZ.out _ (by assumption)).mono ?_;rintro e w5⟨s,x,rfl,aH,al⟩;obtain⟨g0,g1,g2,g3⟩:=aV.out _ al.out))
     go_wp2_with fail;go_roundw
     case rel=>exact⟨i,_,by omega,by go_num,hid (aD.out s x aH.out.1 aH.out.2),hid ((al.out.set_ G.out _ _).set_ G.out _ _)⟩
     case measure=>simp[intOf]
theorem B0S(s:B_)(x:Bool)(w:W_):(Instr.field 138 (.agg #[.string s,.bool x]) 0).run prog w=.ok (.string s) w:=by kernel_rfl
def A9j(t:Rx)(w:W_)(e:Ending)(w':W_):Prop:=∃s:B_,e=.returned (.tuple #[.string s,.nilIface])/\s.data.toList=(S0 t).1/\Below w.heap.size w w'
theorem B31(l:List Nd)(t:Rx)(i:l=A0 t)(c:∀n∈l,P5 n.cls)(v:V_)(w:W_)(p:l.length<=60)(j:q7 w v l):Calls prog 48 #[v] w (A9j t w):=by
 have a:chk l=0:=by rw[i];exact A0k t (by rw[←i];exact p)
 have m:=hid a;have D:=hid λW h=>B4p l t i c v W p h
 have y:=hid j;obtain⟨A,cap,rfl,r,k,d⟩:=j.open_;clear a j d c i;go_enter func48,ntmps48;go_wp2_with fail;refine(A0U l _ _ y.out).mono ?_;rintro e F⟨rfl,g⟩;rw[m.out,j5];have b:=hid g;clear g;go_wp2_with fail;refine(D.out _ (y.out.below b.out)).mono ?_;rintro e E⟨s,x,rfl,q,z,f⟩;have C:=hid q;have o:=hid f;clear q z f;have B:=λW=>B0S s x W
 go_wp2_with fail;go_ret2;exact⟨s,rfl,C.out,b.out.trans (o.out.mono b.out.size)⟩
end Go.Proofs.YthhcpbfgoofppaaGreatDoor
namespace Go.Proofs.YthhcpbfgoofppaaGreatDoor
open Go.RowKit Go.Extern.Stop Go.Stop Go.Extern Wf
theorem B03(t:Addr)(w:W_):(ReflectliteValue.unpack (.iface 102 (.pointer (some t)))).run prog w
 = .ok (.agg #[.pointer (some ⟨7,102,none⟩),.pointer (some ⟨w.heap.size,0,none⟩),.int .u64 150]) (w.alloc (.cells #[.pointer (some t)] 102)):=by kernel_rfl
theorem B7u(a:Addr)(w:W_):(ReflectliteValue.methodAny (ReflectliteValue.valueError "reflectlite.Value.Type" 0) (λt _ _ _=>ReflectliteType.toType t) #[.agg #[.pointer (some ⟨7,102,none⟩),.pointer (some a),.int .u64 150]]).run prog w
 = .ok (.iface 197 (.agg #[.pointer (some ⟨7,102,none⟩)])) w:=by kernel_rfl
theorem A7i(h:V_)(w:W_):(Go.method 455 197 (.agg #[h]) "Kind").run prog w=.ok (240,h) w:=by kernel_rfl
theorem B7v(w:W_):((ReflectliteType.abiMethod λt=>(λa:Nat=>Value.int IntKind.u8 (a:Int)) <$> Rtype.kind t) #[.pointer (some ⟨7,102,none⟩)]).run prog w=.ok (.int .u8 22) w:=by kernel_rfl
theorem B7w(w:W_):((ReflectliteType.abiMethod λt=>(λa:Nat=>Value.int IntKind.u8 (a:Int)) <$> Rtype.kind t) #[.pointer (some ⟨7,81,none⟩)]).run prog w=.ok (.int .u8 2) w:=by kernel_rfl
theorem B8Q(z:Sem Value)(f:TypeId->Addr->Nat->Nat->Sem Value)(v:V_):
 ReflectliteValue.method z f #[v]=(do match ←ReflectliteValue.parts v with | none=>z | some (t,a,fl)=>f t a fl (fl % 32)):=rfl
theorem A9V(a:Addr)(w:W_):(ReflectliteValue.parts (.agg #[.pointer (some ⟨7,102,none⟩),.pointer (some a),.int .u64 150])).run prog w=.ok (some (102,a,150)) w:=by kernel_rfl
theorem B50(a p:Addr)(W:W_)(b:W.cell? a=some (.pointer (some p))):
 (ReflectliteValue.method (ReflectliteValue.valueError "reflectlite.Value.IsNil" 0) ReflectliteValue.isNil #[.agg #[.pointer (some ⟨7,102,none⟩),.pointer (some a),.int .u64 150]]).run prog W=.ok (.bool false) W:=by
 rw[B8Q];simp only[Sem.run_bind,A9V,Result.andThen];simp[ReflectliteValue.isNil,loadVar,isAgg,underlying,underlying102,b,Result.andThen]
theorem A7j(h:V_)(w:W_):(Go.method 455 197 (.agg #[h]) "Elem").run prog w=.ok (251,.agg #[h]) w:=by kernel_rfl
theorem A3D(h:V_)(w:W_):(Go.method 455 197 (.agg #[h]) "Implements").run prog w=.ok (252,.agg #[h]) w:=by kernel_rfl
theorem A2H(h:V_)(w:W_):(Go.method 455 197 (.agg #[h]) "AssignableTo").run prog w=.ok (249,.agg #[h]) w:=by kernel_rfl
theorem B7x(w:W_):(ReflectliteType.method ReflectliteType.elem #[.agg #[.pointer (some ⟨7,102,none⟩)]]).run prog w=.ok (.iface 197 (.agg #[.pointer (some ⟨7,81,none⟩)])) w:=by kernel_rfl
theorem A6I(w:W_):(ReflectliteType.relation "Implements" ReflectliteType.implements_ #[.agg #[.pointer (some ⟨7,81,none⟩)],.iface 197 (.agg #[.pointer (some ⟨7,36,none⟩)])]).run prog w=.ok (.bool true) w:=by kernel_rfl
theorem B3g(v:V_)(w:W_):(ReflectliteType.typeOf #[.iface 81 v]).run prog w=.ok (.iface 197 (.agg #[.pointer (some ⟨7,81,none⟩)])) w:=by kernel_rfl
theorem A6J(w:W_):(ReflectliteType.relation "AssignableTo" ReflectliteType.assignableTo #[.agg #[.pointer (some ⟨7,81,none⟩)],.iface 197 (.agg #[.pointer (some ⟨7,81,none⟩)])]).run prog w=.ok (.bool true) w:=by kernel_rfl
theorem B04(n:Int)(w:W_):(ReflectliteValue.unpack (.iface 81 (.int .i64 n))).run prog w
 = .ok (.agg #[.pointer (some ⟨7,81,none⟩),.pointer (some ⟨w.heap.size,0,none⟩),.int .u64 130]) (w.alloc (.cells #[.int .i64 n] 81)):=by kernel_rfl
theorem B3i(w:W_):(Rtype.elem? 102).run prog w=.ok (some 81) w:=by kernel_rfl
theorem B99(p:Addr)(w:W_):(ReflectliteValue.mk 81 p ReflectliteValue.flagAddr).run prog w=.ok (.agg #[.pointer (some ⟨7,81,none⟩),.pointer (some p),.int .u64 386]) w:=by kernel_rfl
theorem B51(a p:Addr)(W:W_)(b:W.cell? a=some (.pointer (some p))):
 (ReflectliteValue.method (ReflectliteValue.valueError "reflectlite.Value.Elem" 0) ReflectliteValue.elem #[.agg #[.pointer (some ⟨7,102,none⟩),.pointer (some a),.int .u64 150]]).run prog W
   = .ok (.agg #[.pointer (some ⟨7,81,none⟩),.pointer (some p),.int .u64 386]) W:=by
 rw[B8Q];simp only[Sem.run_bind,A9V,Result.andThen];simp[ReflectliteValue.elem,loadVar,isAgg,underlying,underlying102,b,Result.andThen,B3i,B99]
theorem B98(v x:V_):ReflectliteValue.set #[v,x]=(do
 let (some (dst,a,fl),some (src,b,_)):=(←ReflectliteValue.parts v,←ReflectliteValue.parts x)
  | unsupported (.noEntry "extern/(internal/reflectlite.Value).Set.zeroValue")
 if fl / ReflectliteValue.flagAddr % 2==0 then unsupported (.noEntry "extern/(internal/reflectlite.Value).Set.unaddressable")
 let val ←loadVar src b
 if ←Rtype.directlyAssignable dst src then storeVar dst a val
 else if ←Rtype.implements dst src then
  if (←Rtype.kind src)==20 then
   match val with
   | .nilIface=>unsupported (.noEntry "extern/reflectlite: a nil value of one interface type handed on as a value of another")
   | _=>storeVar dst a val
  else storeVar dst a (.iface src val)
 else panicString ("reflectlite.Set: value of type "++(←Rtype.spelt src)++ " is not assignable to type "++(←Rtype.spelt dst))
 pure (.tuple #[])):=rfl
theorem B3h(a:Addr)(w:W_):(ReflectliteValue.parts (.agg #[.pointer (some ⟨7,81,none⟩),.pointer (some a),.int .u64 386])).run prog w=.ok (some (81,a,386)) w:=by kernel_rfl
theorem B5z(a:Addr)(w:W_):(ReflectliteValue.parts (.agg #[.pointer (some ⟨7,81,none⟩),.pointer (some a),.int .u64 130])).run prog w=.ok (some (81,a,130)) w:=by kernel_rfl
theorem B3j(w:W_):(Rtype.directlyAssignable 81 81).run prog w=.ok true w:=by kernel_rfl
theorem B9K(a b:Addr)(n:Int)(c:V_)(W:W_)(g:W.cell? b=some (.int .i64 n))(d:W.cell? a=some c)(f:W.frozen? a=false):
 (ReflectliteValue.set #[.agg #[.pointer (some ⟨7,81,none⟩),.pointer (some a),.int .u64 386],.agg #[.pointer (some ⟨7,81,none⟩),.pointer (some b),.int .u64 130]]).run prog W
   = .ok (.tuple #[]) (W.setCell a (.int .i64 n)):=by
 rw[B98];simp only[Sem.run_bind,B3h,B5z,Result.andThen];simp[ReflectliteValue.flagAddr,loadVar,isAgg,underlying,underlying81,g,Result.andThen,B3j,storeVar,Value.cells,storeCells,Addr.add];rw[run_store prog W a _ _ (by rfl)];simp[d,f]
def A5z(w:W_):Prop:=w.cell? ⟨1,0,none⟩=some (.iface 197 (.agg #[.pointer (some ⟨7,36,none⟩)]))
theorem A5z.below{w w':W_}(h:A5z w)(a:Below w.heap.size w w'):A5z w':=(a.cell (p:=⟨1,0,none⟩) (World.block_lt_of_cell? w _ h)).trans h
theorem B9J(n:Int)(t:Addr)(a:V_)(w:W_)(d:A5z w)(c:w.cell? t=some a)(f:w.frozen? t=false):
 Calls prog 49 #[.iface 81 (.int .i64 n),.iface 102 (.pointer (some t))] w λev w'=>ev=.returned (.bool true) /\
  w'=((((w.alloc (.cells #[.pointer (some t)] 102)).alloc (.cells #[.pointer (some ⟨7,102,none⟩),.pointer (some ⟨w.heap.size,0,none⟩),.int .u64 150] 142)).alloc (.cells #[.pointer (some ⟨7,102,none⟩),.pointer (some ⟨w.heap.size,0,none⟩),.int .u64 150] 142)).alloc (.cells #[.int .i64 n] 81)).setCell t (.int .i64 n):=by
 have J:=@run_callFunc_extern prog 77 _ (λargs=>ReflectliteValue.unpack (args.getD 0 (.tuple #[]))) func77 (by kernel_rfl) (by kernel_rfl) (by kernel_rfl) (by kernel_rfl);have H:=@run_callFunc_extern prog 78 _ (ReflectliteValue.methodAny (ReflectliteValue.valueError "reflectlite.Value.Type" 0) (λt _ _ _=>ReflectliteType.toType t)) func78 (by kernel_rfl) (by kernel_rfl) (by kernel_rfl) (by kernel_rfl);have G:=@run_callFunc_extern prog 79 _ (ReflectliteValue.method (ReflectliteValue.valueError "reflectlite.Value.IsNil" 0) ReflectliteValue.isNil) func79 (by kernel_rfl) (by kernel_rfl) (by kernel_rfl) (by kernel_rfl);have o:=@run_callFunc_extern prog 240 _ (ReflectliteType.abiMethod λt=>do pure (.int .u8 (←Rtype.kind t))) func240 (by kernel_rfl) (by kernel_rfl) (by kernel_rfl) (by kernel_rfl);have l:=@run_callFunc_extern prog 251 _ (ReflectliteType.method ReflectliteType.elem) func251 (by kernel_rfl) (by kernel_rfl) (by kernel_rfl) (by kernel_rfl);have k:=@run_callFunc_extern prog 252 _ (ReflectliteType.relation "Implements" ReflectliteType.implements_) func252 (by kernel_rfl) (by kernel_rfl) (by kernel_rfl) (by kernel_rfl);have r:=@run_callFunc_extern prog 116 _ ReflectliteType.typeOf func116 (by kernel_rfl) (by kernel_rfl) (by kernel_rfl) (by kernel_rfl);have m:=@run_callFunc_extern prog 249 _ (ReflectliteType.relation "AssignableTo" ReflectliteType.assignableTo) func249 (by kernel_rfl) (by kernel_rfl) (by kernel_rfl) (by kernel_rfl);have q:=@run_callFunc_extern prog 117 _ (ReflectliteValue.method (ReflectliteValue.valueError "reflectlite.Value.Elem" 0) ReflectliteValue.elem) func117 (by kernel_rfl) (by kernel_rfl) (by kernel_rfl) (by kernel_rfl);have p:=@run_callFunc_extern prog 118 _ ReflectliteValue.set func118 (by kernel_rfl) (by kernel_rfl) (by kernel_rfl) (by kernel_rfl);have z:=B3g;have F:=A2H;have y:=A6J;have v25:=B04;have M:=B03;have L:=B7u;have C:=A7i;have E:=A7j;have D:=A3D;have g:=B7v;have h:=B7w;have s:=B7x;have i:=A6I;have B:=B50 ⟨w.heap.size,0,none⟩ t ((w.alloc (.cells #[.pointer (some t)] 102)).alloc (.cells #[.pointer (some ⟨7,102,none⟩),.pointer (some ⟨w.heap.size,0,none⟩),.int .u64 150] 142)) (by simp);have hlt:1<w.heap.size:=World.block_lt_of_cell? w _ d
 have j:((w.alloc (.cells #[.pointer (some t)] 102)).alloc (.cells #[.pointer (some ⟨7,102,none⟩),.pointer (some ⟨w.heap.size,0,none⟩),.int .u64 150] 142)).cell? ⟨1,0,none⟩=some (.iface 197 (.agg #[.pointer (some ⟨7,36,none⟩)])):=by
  rw[World.cell?_alloc_lt _ _ ⟨1,0,none⟩ (by simp <;> omega),World.cell?_alloc_lt _ _ ⟨1,0,none⟩ hlt];exact d
 have b:t.block<w.heap.size:=World.block_lt_of_cell? w _ c;have N:=B51 ⟨w.heap.size,0,none⟩ t (((w.alloc (.cells #[.pointer (some t)] 102)).alloc (.cells #[.pointer (some ⟨7,102,none⟩),.pointer (some ⟨w.heap.size,0,none⟩),.int .u64 150] 142)).alloc (.cells #[.pointer (some ⟨7,102,none⟩),.pointer (some ⟨w.heap.size,0,none⟩),.int .u64 150] 142)) (by rw[World.cell?_alloc_lt _ _ ⟨w.heap.size,0,none⟩ (by simp;omega)];simp)
 have A:=B9K t ⟨w.heap.size+1+1+1,0,none⟩ n a ((((w.alloc (.cells #[.pointer (some t)] 102)).alloc (.cells #[.pointer (some ⟨7,102,none⟩),.pointer (some ⟨w.heap.size,0,none⟩),.int .u64 150] 142)).alloc (.cells #[.pointer (some ⟨7,102,none⟩),.pointer (some ⟨w.heap.size,0,none⟩),.int .u64 150] 142)).alloc (.cells #[.int .i64 n] 81))
  (by rw[World.cell?_alloc_at _ _ _ _ (by simp)];rfl)
  (by rw[World.cell?_alloc_lt _ _ t (by simp;omega),World.cell?_alloc_lt _ _ t (by simp;omega),World.cell?_alloc_lt _ _ t (by simp;omega),World.cell?_alloc_lt _ _ t b];exact c)
  (by rw[World.frozen?_alloc_old _ _ t (by simp;omega),World.frozen?_alloc_old _ _ t (by simp;omega),World.frozen?_alloc_old _ _ t (by simp;omega),World.frozen?_alloc_old _ _ t (Nat.ne_of_lt b)];exact f)
 clear d;go_enter func49,ntmps49;go_wp2;refine wp_loop_rounds 1 ?_;rw[rounds_succ];go_wp2;go_ret;exact⟨rfl,rfl⟩
theorem A9P{w W:W_}{t:Addr}{v:V_}{B:Nat}(h:Below B w W)(a:B<=t.block):Below B w (W.setCell t v):=h.setCell a v
