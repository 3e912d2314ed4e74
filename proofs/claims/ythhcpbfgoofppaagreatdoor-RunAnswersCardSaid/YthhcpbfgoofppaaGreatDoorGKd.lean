import Derived.Test.YthhcpbfgoofppaaGreatDoorGKn
import Derived.Test.YthhcpbfgoofppaaGreatDoorStrs
set_option linter.unusedVariables false
set_option linter.unusedSimpArgs false
open Wf
set_option maxRecDepth 100000
set_option maxHeartbeats 8000000
open Go.Lib (hid)
open Go.Proofs.Tryz hiding parts
namespace Go.Proofs.YthhcpbfgoofppaaGreatDoor
open Go.RowKit Wf
theorem B2J{β:Type}(k:Kn)(v:β):upd (λ_=>v) k v=λ_=>v:=by
 funext x
 unfold upd
 split <;> rfl
theorem Net.start(w:W_)(wv:V_):Net w (w.heap.size+2) wv ⟨w.heap.size+1,w.heap.size,[]⟩ [⟨w.heap.size+1,w.heap.size,[]⟩] (λ_=>.pointer none) (λ_=>.slice none 0 0) (λ_=>[])
 (((w.alloc (.map #[] 0)).alloc (.cells #[.map (some w.heap.size),.pointer none,.slice none 0 0] 220)).alloc (.cells #[J7 (w.heap.size+1),wv] 222)):=by
 have h:J0 ((w.alloc (.map #[] 0)).alloc (.cells #[.map (some w.heap.size),.pointer none,.slice none 0 0] 220)) (w.heap.size+1) 220 #[.map (some w.heap.size),.pointer none,.slice none 0 0]:=by
  have:=J0.new (w.alloc (.map #[] 0)) 220 #[.map (some w.heap.size),.pointer none,.slice none 0 0]
  simpa using this
 have g:=J0.new ((w.alloc (.map #[] 0)).alloc (.cells #[.map (some w.heap.size),.pointer none,.slice none 0 0] 220)) 222 #[J7 (w.heap.size+1),wv];have m:=(((Mp.new w k5).below (br_.alloc (lr_ _) (.cells #[.map (some w.heap.size),.pointer none,.slice none 0 0] 220))).below (br_.alloc (lr_ _) (.cells #[J7 (w.heap.size+1),wv] 222)))
 refine⟨by simpa using g,by omega,List.mem_singleton.2 rfl,rfl,?_,?_,?_,?_,?_,?_,?_,?_,?_,?_,?_⟩
 .intro k b
  rw[List.mem_singleton.1 b];exact h.alloc _
 .intro k b
  rw[List.mem_singleton.1 b];exact m
 .intro k b
  rw[List.mem_singleton.1 b];exact Nat.le_succ _
 .intro k b
  rw[List.mem_singleton.1 b];exact lr_ _
 .intro s d t a _
  rw[List.mem_singleton.1 d,List.mem_singleton.1 a]
 .intro s d t a _
  rw[List.mem_singleton.1 d,List.mem_singleton.1 a]
 .intro s d t a _
  rw[List.mem_singleton.1 d,List.mem_singleton.1 a]
 .intro k _ c v l
  cases l
 .intro k b t a c _ e
  rw[List.mem_singleton.1 b,List.mem_singleton.1 a] at e;have:=congrArg List.length e;simp at this
 .intro t a f
  rw[List.mem_singleton.1 a] at f;exact absurd rfl f
 .exact(ba_.alloc (by simp) _).alloc (by simp;omega) _
def N7(w0 w:W_)(v:V_)(a:List Nat):Prop:=(v=.slice none 0 0↔a=[])/\w.ownsRow w0.heap.size 3 1 v a.length (D0 a)
theorem N7.nil(w0 w:W_):N7 w0 w (.slice none 0 0) []:=⟨by simp,World.ownsRow_nil _ _ _ _⟩
theorem N7.kept{w0 w w':W_}{v:V_}{a:List Nat}{row:Option Nat}(h:N7 w0 w v a)(d:w.grownBy w' row)(b:v.ownBlock=none\/v.ownBlock≠row):N7 w0 w' v a:=⟨h.1,h.2.kept d b⟩
theorem N7.below{w0 w w':W_}{v:V_}{b:List Nat}(h:N7 w0 w v b)(a:Below w.heap.size w w'):N7 w0 w' v b :=
 h.kept (row:=none) ⟨a.os,a.tape,a.output,a.size,λi d _=>a.block i d⟩ (by cases v.ownBlock <;> simp)
structure D9 (w0:W_) (Nb:Nat) (wv:V_) (root:Kn) (ws:List (List U_)) (i j:Nat) (Ks:List Kn) (ev:Kn->Value) (ch:Kn->List (Nat×Value)) (w:W_):Prop where
 net:Net w0 Nb wv root Ks (λ_=>.pointer none) ev ch w
 pre:∀u,A9h ws i j u↔∃k∈Ks,k.u=u
 rows:∀k∈Ks,∃xs,A7u ws i k.u xs/\N7 w0 w (ev k) xs
theorem A8w{w0 w:W_}{Nb:Nat}{wv:V_}{root k:Kn}{Ks:List Kn}{m ev:Kn->Value}{ch:Kn->List (Nat×Value)}(h:Net w0 Nb wv root Ks m ev ch w)(f:k∈Ks)(c:U_):
 (A6 (ch k) c.toNat=none/\∀t∈Ks,t.u≠k.u++[c])\/∃t∈Ks,A6 (ch k) c.toNat=some (J7 t.b)/\t.u=k.u++[c]:=by
 have l:c.toNat<256:=c.toNat_lt;have g:UInt8.ofNat c.toNat=c:=by simp
 cases hg:A6 (ch k) c.toNat with
 | none =>
   refine .inl ⟨rfl,λt a e=>?_⟩;have:=h.all k f t a c.toNat l (by rw[g];exact e);rw[hg] at this;cases this
 | some v =>
   obtain⟨t,a,rfl,_,d⟩:=h.kids k f _ v hg;exact .inr ⟨t,a,rfl,by rw[g] at d;exact d⟩
theorem B3I{ws:List (List U_)}{i j:Nat}{u:List U_}(d:¬A9h ws i j u):A7u ws i u []:=by
 refine⟨List.nodup_nil,λa=>⟨(λh=>by cases h),?_⟩⟩;rintro⟨f,b⟩;exact absurd (.inr (.inl ⟨u,List.mem_of_getElem? (i:=a) (by rw[List.getElem?_take_of_lt f];exact b),List.prefix_refl _⟩)) d
section
variable {w0 w w':W_} {Nb:Nat} {wv:V_} {root k:Kn} {ws:List (List U_)} {i j:Nat} {Ks:List Kn} {ev:Kn->Value} {ch:Kn->List (Nat×Value)} {wd:List U_} {c:U_}
theorem N7.apart{v:V_}{f:List Nat}{g:Nat}(h:N7 w0 w v f)(d:∀a,w.heap[g]?≠some (.cells a 3 (0,0))):v.ownBlock=none\/v.ownBlock≠some g:=by
 rcases h.2.2 with ⟨rfl,_⟩|⟨b,cap,a,rfl,_,hb,_⟩
 .exact .inl rfl
 .refine .inr λe=>?_
  have l:b=g:=by simpa[Value.ownBlock] using e
  exact d a (by rw[←l];exact hb)
theorem N7.not_map{v:V_}{b:List Nat}{m:Nat}{l:List (Nat×Value)}(h:N7 w0 w v b)(d:Mp w m k5 l):v.ownBlock=none\/v.ownBlock≠some m:=by
 obtain⟨n,a,f,_⟩:=d;exact h.apart (λg e=>by rw[f] at e;cases e)
theorem N7.not_blk{v:V_}{b:List Nat}{g:Nat}{t:TypeId}{cs:Array V_}(h:N7 w0 w v b)(a:J0 w g t cs)(d:t≠3):v.ownBlock=none\/v.ownBlock≠some g :=
 h.apart (λf e=>by unfold J0 at a;rw[a] at e;cases e;exact d rfl)
theorem D9.has(h:D9 w0 Nb wv root ws i j Ks ev ch w)(a:ws[i]?=some wd)(f:wd[j]?=some c){t:Kn}(d:t∈Ks)(b:t.u=wd.take j++[c]):D9 w0 Nb wv root ws i (j+1) Ks ev ch w:=by
 refine⟨h.net,λu=>?_,h.rows⟩;rw[A7D a f,h.pre];constructor
 .rintro (g|rfl)
  .exact g
  .exact⟨t,d,b⟩
 .exact .inl
theorem D9.new(h:D9 w0 Nb wv root ws i j Ks ev ch w)(C:ws[i]?=some wd)(G:wd[j]?=some c)(y:k∈Ks)(g:k.u=wd.take j)(z:A6 (ch k) c.toNat=none){n:W_}
 (hw1:n=(w.alloc (.map #[] 0)).alloc (.cells #[.map (some w.heap.size),.pointer none,.slice none 0 0] 220)) {t:Kn} (ht:t=⟨w.heap.size+1,w.heap.size,k.u++[c]⟩)
 (hmp:Mp w' k.m k5 (j8 (ch k) c.toNat (J7 t.b))) (hg:n.grownBy w' (some k.m)):
 D9 w0 Nb wv root ws i (j+1) (t::Ks) (upd ev t (.slice none 0 0)) (upd (upd ch t []) k (j8 (ch k) c.toNat (J7 t.b))) w':=by
 have F:UInt8.ofNat c.toNat=c:=by simp
 obtain⟨f,o⟩:=h.net.insert y (c:=c.toNat) c.toNat_lt z hw1 (by rw[F];exact ht) hmp hg;rw[B2J] at f
 have r:∀s∈Ks,s.u≠k.u++[c]:=by
  rcases A8w h.net y c with ⟨_,a⟩|⟨t',_,a,_⟩
  .exact a
  .rw[z] at a;cases a
 have l:Below w.heap.size w n:=by rw[hw1];exact ba_.alloc (by simp) _
 refine⟨f,λu=>?_,λs d=>?_⟩
 .rw[A7D C G,h.pre]
  constructor
  .rintro (⟨s,d,a⟩|rfl)
   .exact⟨s,List.mem_cons_of_mem _ d,a⟩
   .exact⟨t,List.mem_cons_self ..,by rw[ht,g]⟩
  .rintro⟨s,d,a⟩
   rcases List.mem_cons.1 d with rfl|d
   .exact .inr (by rw[←a,ht,g])
   .exact .inl ⟨s,d,a⟩
 .rcases List.mem_cons.1 d with e|d
  .rw[e,F5]
   refine⟨[],B3I (j:=j) (λE=>?_),N7.nil _ _⟩;obtain⟨q,D,p⟩:=(h.pre _).1 E;exact r q D (by rw[p,ht])
  .rw[V3 _ _ (λ(e:s=t)=>o (by rw[←e];exact d))]
   obtain⟨B,a,H⟩:=h.rows s d;have A:=H.below l;exact⟨B,a,A.kept hg (A.not_map (((h.net.below l)).mp k y))⟩
theorem D9.word(h:D9 w0 Nb wv root ws i wd.length Ks ev ch w)(o:ws[i]?=some wd)(q:ws.Nodup)(p:k∈Ks)(m:k.u=wd){v:V_}{n:W_}(A:Below w.heap.size w n)(r:N7 w0 n v [i]):
 D9 w0 Nb wv root ws (i+1) 0 Ks (upd ev k v) ch (n.setCell ⟨k.b,2,none⟩ v):=by
 have f:=h.net.below A;have z:=j6 n ⟨k.b,2,none⟩ v;have d:220≠3:=by decide
 have l:∀a:Nat,ws[a]?=some wd->a=i:=λa g=>by
  exact(List.getElem?_inj (List.getElem?_eq_some_iff.1 g).1 q).1 (g.trans o.symm)
 refine⟨f.setEnds p v,λu=>?_,λs t=>?_⟩
 .rw[B30 o,h.pre]
 .by_cases e:s=k
  .rw[e,F5]
   refine⟨[i],⟨by simp,λa=>?_⟩,r.kept z (r.not_blk (f.blk k p) d)⟩;rw[List.mem_singleton,m];exact⟨λg=>by rw[g];exact⟨Nat.lt_succ_self _,o⟩,λ⟨_,g⟩=>l a g⟩
  .rw[V3 _ _ e]
   obtain⟨D,C,E⟩:=h.rows s t;have B:=E.below A;refine⟨D,⟨C.1,λa=>?_⟩,B.kept z (B.not_blk (f.blk k p) d)⟩;rw[C.2];constructor
   .exact λ⟨x,y⟩=>⟨by omega,y⟩
   .rintro⟨x,y⟩
    refine⟨?_,y⟩;rcases Nat.lt_or_ge a i with hlt|hge
    .exact hlt
    .exfalso
     obtain rfl:a=i:=by omega
     rw[o] at y;exact e (h.net.iu s t k p ((Option.some.inj y).symm.trans m.symm))
end
theorem B4w{s:B_}{j:Nat}(h:j<s.size):s.data.toList[j]?=some s[j]:=by
 have a:j<s.data.toList.length:=by simpa using h
 rw[List.getElem?_eq_getElem a];simp[ByteArray.getElem_eq_getElem_data]
theorem A70{l:List B_}(h:l.Nodup):(l.map (λs=>s.data.toList)).Nodup:=by
 rw[List.nodup_iff_pairwise_ne,List.pairwise_map];rw[List.nodup_iff_pairwise_ne] at h;exact h.imp λa e=>a (ByteArray.ext (Array.toList_inj.1 e))
theorem D9.below{w0 w w':W_}{Nb:Nat}{wv:V_}{root:Kn}{ws:List (List U_)}{i j:Nat}{Ks:List Kn}{ev:Kn->Value}{ch:Kn->List (Nat×Value)}(h:D9 w0 Nb wv root ws i j Ks ev ch w)(a:Below w.heap.size w w'):D9 w0 Nb wv root ws i j Ks ev ch w' :=
 ⟨h.net.below a,h.pre,λk d=>by
   obtain⟨b,g,f⟩:=h.rows k d;exact⟨b,g,f.below a⟩⟩
theorem D9.bare{w0 w:W_}{Nb:Nat}{wv:V_}{root k:Kn}{ws:List (List U_)}{i j:Nat}{Ks:List Kn}{ev:Kn->Value}{ch:Kn->List (Nat×Value)}(h:D9 w0 Nb wv root ws i j Ks ev ch w)(d:ws.Nodup)(g:k∈Ks)(f:ws[i]?=some k.u):ev k=.slice none 0 0:=by
 obtain⟨o,n,m⟩:=h.rows k g;refine m.1.2 (List.eq_nil_iff_forall_not_mem.2 λa l=>?_);obtain⟨hlt,b⟩:=(n.2 a).1 l;have:=(List.getElem?_inj (List.getElem?_eq_some_iff.1 b).1 d).1 (b.trans f.symm);omega
def okN(l:List B_):Prop:=l.length<=20/\(∀s∈l,0<s.size/\s.size<=60)/\l.Nodup
theorem C0G(l:List B_)(v:V_)(w:W_)(hr:Rd1 w v (T0 l))(O:okN l)(ws:List (List U_))(L:ws=l.map (λs=>s.data.toList))(P:Nat->World->Prop)
 (htie:∀(Ks:List Kn)(ev:Kn->Value) (ch:Kn->List (Nat×Value)) (W:W_),D9 w (w.heap.size+2) v ⟨w.heap.size+1,w.heap.size,[]⟩ ws ws.length 0 Ks ev ch W ->
   Calls prog 125 #[.pointer (some ⟨w.heap.size+2,0,none⟩)] W (λe w'=>e=.returned (.tuple #[])/\P (w.heap.size+2) w')):
 Calls prog 86 #[v] w (λe w'=>e=.returned (.pointer (some ⟨w.heap.size+2,0,none⟩))/\P (w.heap.size+2) w'):=by
 have T:ws.length=l.length:=by rw[L];simp
 have ad:ws.Nodup:=by rw[L];exact A70 O.2.2
 have aN:l.length<=20:=O.1;have aE:=hid O.2.1;obtain⟨A,cap,rfl,aO,aB,S⟩:=A0Y hr;have V:=hid htie;have HM:=hid S
 have B:Hid (D9 w (w.heap.size+2) (.slice A l.length cap) ⟨w.heap.size+1,w.heap.size,[]⟩ ws 0 0 [⟨w.heap.size+1,w.heap.size,[]⟩] (λ_=>.slice none 0 0) (λ_=>[]) (((w.alloc (.map #[] 0)).alloc (.cells #[.map (some w.heap.size),.pointer none,.slice none 0 0] 220)).alloc (.cells #[J7 (w.heap.size+1),.slice A l.length cap] 222))):=hid
  ⟨Net.start w _,λu=>by
    rw[B3z];constructor
    .rintro rfl;exact⟨_,List.mem_singleton.2 rfl,rfl⟩
    .rintro⟨k,q,rfl⟩;rw[List.mem_singleton.1 q],λk q=>⟨[],⟨List.nodup_nil,λa=>⟨(λh=>by cases h),(λh=>by omega)⟩⟩,N7.nil _ _⟩⟩
 have al:=hid ad;have aD:=hid L;have aX:=@run_makeMap prog;have az:Hid (ws.length=l.length):=hid T;clear S hr O htie ad L T;go_enter func86,ntmps86;go_wp2_with fail;unfold J7 at B;generalize hR:(⟨w.heap.size+1,w.heap.size,[]⟩:Kn)=root at *;have ay:root.b=w.heap.size+1:=by rw[←hR]
 clear hR
 go_loopw [16] (λv16 wr=>∃(i:Nat)(Ks:List Kn) (ev:Kn->Value) (ch:Kn->List (Nat×Value)),i<=l.length/\v16=.int .i64 i/\Hid (D9 w (w.heap.size+2) (.slice A l.length cap) root ws i 0 Ks ev ch wr)) (λi _=>l.length - (intOf i).toNat)
 case atStart=>exact⟨0,_,_,_,by omega,rfl,B⟩
 case round =>
  clear B;obtain⟨i,Ks,ev,ch,hi,rfl,f⟩:=hrel;have n0:wr.cell? ⟨w.heap.size+2,0,none⟩=some (.pointer (some ⟨root.b,0,none⟩)):=f.out.net.net.cell 0;by_cases hlt:i<l.length
  .obtain⟨d,M⟩:∃x,l[i]?=some x:=⟨_,List.getElem?_eq_getElem hlt⟩
   obtain⟨b,ar,rfl,aj,H⟩:=HM.out (by omega);have hc:=H wr (λo=>f.out.net.keep.cell (p:=⟨b,o,none⟩) aj) i d M;have aV:d.size<=60:=(aE.out d (List.mem_of_getElem? M)).2;have HW:Hid (ws[i]?=some d.data.toList):=hid (by rw[aD.out,List.getElem?_map,M];rfl);have ak:Hid (root∈Ks/\root.u=d.data.toList.take 0):=hid ⟨f.out.net.rt,by rw[f.out.net.ru];rfl⟩;clear M H aj ay;go_wp2_with fail
   go_loopw [6,27] (λv6 v27 wx=>∃(j:Nat)(k:Kn) (Ks:List Kn) (ev:Kn->Value) (ch:Kn->List (Nat×Value)),j<=d.size/\v27=.int .i64 j/\v6=.pointer (some ⟨k.b,0,none⟩)/\Hid (k∈Ks/\k.u=d.data.toList.take j)/\Hid (D9 w (w.heap.size+2) (.slice (some ⟨b,ar,none⟩) l.length cap) root ws i j Ks ev ch wx)) (λ_ v _=>d.size - (intOf v).toNat)
   case atStart=>exact⟨0,root,Ks,ev,ch,by omega,rfl,rfl,ak,f⟩
   case round =>
    clear n0 hc f ak;obtain⟨j,k,Ks,ev,ch,hj,rfl,rfl,HK,f⟩:=hrel;by_cases hjl:j<d.size
    .have r:=B4w hjl
     obtain⟨q,z⟩:=HK.out;have k0:wr.cell? ⟨k.b,0,none⟩=some (.map (some k.m)):=(f.out.net.blk k q).cell 0;rcases A8w f.out.net q d[j] with ⟨hg,hno⟩|⟨t,ht,hg,htu⟩
     .have y:=λn=>((f.out.below (M0 br_ n)).net.mp k q).look_none m9 underlying218 (A6O _) hg false
      simp only[k5,Bool.false_eq_true,if_false] at y;go_wp2_with fail;go_quiet (fail);have E:=hid (f.out.below (M0 br_ nq));generalize wr.drewN nq=W1 at E ⊢;clear f k0 y;go_wp2_with fail;have D:=hid (E.out.below br_.drew);have ac:Below W1.drew.heap.size W1.drew ((W1.drew.alloc (.map #[] 0)).alloc (.cells #[.map (some W1.heap.size),.pointer none,.slice none 0 0] 220)):=ba_.alloc (by simp) _;obtain⟨W3,N,F,ah,ax⟩:=Mp.update ((D.out.net.mp k q).below ac) m9 underlying218 d[j].toNat (J7 (W1.heap.size+1));have J:=hid (D.out.new (t:=⟨W1.heap.size+1,W1.heap.size,k.u++[d[j]]⟩) HW.out r q z hg rfl rfl F ah);have k0:W1.drew.cell? ⟨k.b,0,none⟩=some (.map (some k.m)):=(D.out.net.blk k q).cell 0;have k1:(W1.alloc (.map #[] 0)).drew.cell? ⟨k.b,0,none⟩=some (.map (some k.m)):=((D.out.net.blk k q).alloc _).cell 0;have k2:((W1.alloc (.map #[] 0)).alloc (.cells #[.map (some W1.heap.size),.pointer none,.slice none 0 0] 220)).drew.cell? ⟨k.b,0,none⟩=some (.map (some k.m)):=(((D.out.net.blk k q).alloc _).alloc _).cell 0;have R:Mp W3 k.m k5 (j8 (ch k) d[j].toNat (J7 (W1.heap.size+1))):=F;have ae:k∈(⟨W1.heap.size+1,W1.heap.size,k.u++[d[j]]⟩:Kn)::Ks:=List.mem_cons_of_mem _ q;have aI:Hid (W3.cell? ⟨k.b,0,none⟩=some (.map (some k.m))):=hid ((J.out.net.blk k ae).cell 0);have aF:Hid (∀n,Mp (W3.drewN n) k.m k5 (j8 (ch k) d[j].toNat (J7 (W1.heap.size+1)))):=hid λn=>R.below (M0 br_ n)
      have aa:Hid ((⟨W1.heap.size+1,W1.heap.size,k.u++[d[j]]⟩:Kn)∈(⟨W1.heap.size+1,W1.heap.size,k.u++[d[j]]⟩:Kn)::Ks/\(⟨W1.heap.size+1,W1.heap.size,k.u++[d[j]]⟩:Kn).u=d.data.toList.take (j+1)):=hid ⟨List.mem_cons_self ..,by rw[X3 r,←z]⟩;simp only[k5,J7] at N;replace N:(Instr.mapUpdate 218 (.map (some k.m)) (.int .u8 (d[j].toNat:Int)) (.pointer (some ⟨W1.heap.size+1,0,none⟩))).run prog (((W1.alloc (.map #[] 0)).alloc (.cells #[.map (some W1.heap.size),.pointer none,.slice none 0 0] 220)).drew)=.ok () W3:=N;clear hg hno z r F R ah ax E D ac ae;go_region
      all_goals (
       clear k0 k1 k2 N;have k3:=aI.out;have y:=λn=>(aF.out n).look_some m9 underlying218 (a:=d[j].toNat) (v:=J7 (W1.heap.size+1)) (by rw[A0D,if_pos rfl]) false
       simp only[k5,J7,Bool.false_eq_true,if_false] at y;go_wp2_with fail;go_quiet (fail);go_wp2_with fail;go_roundw
       case rel=>exact⟨j+1,_,_,_,_,by omega,by go_num,rfl,aa,hid (J.out.below (M0 br_ nq))⟩
       case measure=>simp[intOf];omega)
     .have y:=λn=>((f.out.below (M0 br_ n)).net.mp k q).look_some m9 underlying218 hg false
      simp only[k5,J7,Bool.false_eq_true,if_false] at y;have J:=hid (f.out.has HW.out r ht (by rw[htu,z]));have aa:Hid (t∈Ks/\t.u=d.data.toList.take (j+1)):=hid ⟨ht,by rw[htu,z,X3 r]⟩;clear htu z r;go_wp2_with fail;go_quiet (fail);have E:=hid (f.out.below (M0 br_ nq));have X:=hid (J.out.below (M0 br_ nq));generalize wr.drewN nq=W1 at E X ⊢;clear k0 y f J;have k0:W1.cell? ⟨k.b,0,none⟩=some (.map (some k.m)):=(E.out.net.blk k q).cell 0;have y:=λn=>((E.out.below (M0 br_ n)).net.mp k q).look_some m9 underlying218 hg false
      simp only[k5,J7,Bool.false_eq_true,if_false] at y;go_wp2_with fail;go_quiet (fail);go_wp2_with fail;go_roundw
      case rel=>exact⟨j+1,t,Ks,ev,ch,by omega,by go_num,rfl,aa,hid (X.out.below (M0 br_ nq))⟩
      case measure=>simp[intOf];omega
    .obtain rfl:j=d.size:=by omega
     obtain⟨q,z⟩:=HK.out;have G:k.u=d.data.toList:=by rw[z,show d.size=d.data.toList.length by simp,List.take_length]
     have C:=f.out.bare al.out q (by rw[G];exact HW.out)
     have k2:wr.cell? ⟨k.b,2,none⟩=some (.slice none 0 0):=by
      have:=(f.out.net.blk k q).cell 2;rw[C] at this;exact this
     have aH:=hid (f.out.net.blk k q);have aY:=aH.out.lt;obtain⟨i0,aA,aw,av,au⟩:=info_parts A0B;have a_:=f.out.net.keep.size;have aG:=hid G;have Z:=f.out.net.blk k q;rw[C] at Z;have am:=hid Z;clear z G C HK Z
     go_wp2_with (at_builtin;refine wpList_append_lies _ rfl (.tmp 62) (.tmp 64) _ rfl w.heap.size 3 i0 _ 1 8 underlying191 aA aw av au rfl (by omega) _ 0 [] rfl (World.ownsRow_nil _ _ _ _) ⟨wr.heap.size,0,none⟩ 1 1 [.int .i64 i] rfl rfl (cell_one_new _ _ _) (by simp[Value.oneCell']) (by omega) (by unfold maxLen;omega) (by omega) (by simp;omega) _ rfl ?_;intro g2 aQ w2 Y Q aP aM;have ag:(wr.alloc (.cells #[.int .i64 i] 3)).grownBy w2 none:=Q;have af:=m5 (am.out.alloc (.cells #[.int .i64 i] 3)) ag (by simp);have k3:w2.cell? ⟨k.b,2,none⟩=some (.slice none 0 0):=af.cell 2;have y3:=af.frozen 2)
     have ai:Below wr.heap.size wr w2:=by
      have aC:=(Below.refl wr.heap.size wr).alloc (lr_ _) (.cells #[.int .i64 i] 3);exact aC.grown ag (by simp) (λg e=>by cases e)
     go_roundw
     case rel =>
      refine⟨i+1,Ks,_,ch,by omega,by go_num,hid (f.out.word HW.out al.out q aG.out ai ⟨⟨(λe=>by cases e),(λe=>by cases e)⟩,?_⟩)⟩
      simpa[D0] using Y
     case measure=>simp[intOf];omega
  .obtain rfl:i=l.length:=by omega
   have D:Hid (∀e w',e=Ending.returned (.tuple #[])/\P (w.heap.size+2) w'->e=.returned (.tuple #[])/\P (w.heap.size+2) w'):=hid λ_ _ h=>h
   have HT:=hid (V.out Ks ev ch wr (by rw[az.out];exact f.out));clear f V
   go_wp2_with (go_at_call 125;refine HT.out.mono ?_;rintro e w'⟨rfl,hp⟩)
   go_ret;exact⟨rfl,hp⟩
