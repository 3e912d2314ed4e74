import Derived.Test.YthhcpbfgoofppaaGreatDoorGSetF
set_option linter.unusedVariables false
set_option linter.unusedSimpArgs false
open Wf
set_option maxRecDepth 100000
set_option maxHeartbeats 8000000
open Go.Lib (hid)
open Go.Proofs.Tryz hiding parts
namespace Wf
open Classical
noncomputable def A6K(a:List B_)(n:B_):List B_:=if n.size≠0/\n∉a then a++[n] else a
noncomputable def A0M(a:List B_):List B_:=a.foldl A6K []
theorem B0T{a:List B_}{k:Nat}{n:B_}(h:a[k]?=some n):A0M (a.take (k+1))=A6K (A0M (a.take k)) n:=by
 unfold A0M;rw[List.take_add_one,h,Option.toList_some,List.foldl_append]
 rfl
theorem B5P(d:List B_):∀c:List B_,c.Nodup->(∀s∈c,s.size≠0) ->
 (d.foldl A6K c).Nodup/\(∀s,s∈d.foldl A6K c↔s∈c\/(s∈d/\s.size≠0))/\(d.foldl A6K c).length<=c.length+d.length:=by
 induction d with
 | nil=>intro c g m;exact⟨g,λs=>by simp,by simp⟩
 | cons n r ih =>
   intro c g m;rw[List.foldl_cons];by_cases hn:n.size≠0/\n∉c
   .rw[show A6K c n=c++[n] from if_pos hn]
    obtain⟨l,k,j⟩:=ih (c++[n]) (List.nodup_append.2 ⟨g,by simp,λa o b p e=>by rw[List.mem_singleton.1 p] at e;rw[e] at o;exact hn.2 o⟩) (λs f=>by
     rcases List.mem_append.1 f with f|f
     .exact m s f
     .rw[List.mem_singleton.1 f];exact hn.1)
    refine⟨l,λs=>?_,by rw[List.length_cons];first | omega | (rw[List.length_append,List.length_singleton] at j;omega)⟩;rw[k s];simp only[List.mem_append,List.mem_singleton,List.mem_cons,List.not_mem_nil,or_false];constructor
    .rintro ((h|h)|h)
     .exact .inl h
     .exact .inr ⟨.inl h,by rw[h];exact hn.1⟩
     .exact .inr ⟨.inr h.1,h.2⟩
    .rintro (h|⟨h|h,i⟩)
     .exact .inl (.inl h)
     .exact .inl (.inr h)
     .exact .inr ⟨h,i⟩
   .rw[show A6K c n=c from if_neg hn]
    obtain⟨l,k,j⟩:=ih c g m;refine⟨l,λs=>?_,by rw[List.length_cons];first | omega | (rw[List.length_append,List.length_singleton] at j;omega)⟩;rw[k s];simp only[List.mem_cons];constructor
    .rintro (h|h)
     .exact .inl h
     .exact .inr ⟨.inr h.1,h.2⟩
    .rintro (h|⟨h|h,i⟩)
     .exact .inl h
     .subst h
      exact .inl (Classical.byContradiction λe=>hn ⟨i,e⟩)
     .exact .inr ⟨h,i⟩
theorem A6e{a:List B_}{s:B_}:s∈A0M a↔s∈a/\s.size≠0:=by
 have:=(B5P a [] List.nodup_nil (λs h=>by cases h)).2.1 s;unfold A0M;rw[this];simp
theorem A8l(a:List B_):(A0M a).Nodup:=(B5P a [] List.nodup_nil (λs h=>by cases h)).1
theorem A6f(a:List B_):(A0M a).length<=a.length:=by have:=(B5P a [] List.nodup_nil (λs h=>by cases h)).2.2;simpa[A0M] using this
theorem A78(ws:List (List U_))(t:List U_)(n:List U_)(h:n≠[]):(∃p∈G8 ws t t.length,ws.getD p.1 []=n)↔n∈ws/\r7 n t=true:=by
 rw[A23];constructor
 .rintro⟨⟨i,e⟩,b,l⟩
  unfold G8 A30 at b;simp only[List.mem_flatMap,List.mem_range,List.mem_map] at b;obtain⟨j,s,o,c,m⟩:=b;injection m with he1 he2
  subst he1;obtain⟨x,d,g⟩:=A2k.1 c;have:x=n:=by simpa[List.getD,d] using l
  subst this;obtain⟨p,b⟩:=g;refine⟨List.mem_of_getElem? d,p,t.drop (j+1),?_⟩;rw[b,List.take_append_drop]
 .rintro⟨k,p,q,a⟩
  obtain⟨i,c⟩:=List.mem_iff_getElem?.1 k;have r:0<n.length:=List.length_pos_iff.2 h;refine⟨(i,p.length+n.length),?_,by simp[List.getD,c]⟩;unfold G8 A30;simp only[List.mem_flatMap,List.mem_range,List.mem_map];have f:t.length=p.length+n.length+q.length:=by rw[a,List.length_append,List.length_append]
  refine⟨p.length+n.length - 1,by omega,i,?_,by rw[show p.length+n.length - 1+1=p.length+n.length by omega]⟩;rw[show p.length+n.length - 1+1=p.length+n.length by omega];refine A2k.2 ⟨n,c,p,?_⟩;rw[a,show p.length+n.length=(p++n).length by simp,List.take_left]
end Wf
namespace Go.Proofs.YthhcpbfgoofppaaGreatDoor.setW
open Go.RowKit Wf
theorem B8D(v:V_)(a:List B_)(x:B_)(w:W_)(d:Rd1 w v (T0 a))(o:a.length<=1000)(r:Bool)(g:r=true↔x∈a):
 Calls prog 85 #[v,.string x] w (λe w'=>e=.returned (.bool r)/\w=w'):=by
 obtain⟨A,cap,rfl,l,k,j⟩:=A0Y d;by_cases h0:a.length=0
 .rw[h0]
  have:a=[]:=List.eq_nil_of_length_eq_zero h0;have d:r=false:=by cases r with | false=>rfl | true=>have:=g.1 rfl;rw[List.eq_nil_of_length_eq_zero h0] at this;cases this
  rw[d];exact B6W A cap x w
 .obtain⟨b,c,rfl,m,f⟩:=j (by omega)
  refine(C0L b c a.length cap a x w (lr_ _) (by omega) (f w (λ_=>rfl))).mono ?_;rintro e w'⟨i,rfl,h,n⟩;rw[List.take_length] at h;have:i=r:=by rw[Bool.eq_iff_iff,h,g]
  rw[this];exact⟨rfl,n⟩
theorem A1L:(prog.info? 9).map (λi=>(i.zero,i.size,i.bytes))=some (some (.string ⟨#[]⟩),1,16):=by kernel_rfl
theorem B2E(w:W_):(zeroValue 3).run prog w=.ok (.int .i64 0) w:=by kernel_rfl
theorem L9(W:W_)(t:TypeId)(x:V_)(g:Nat)(b:g=W.heap.size):∀(j:Nat)(u:V_),[x][j]?=some u->(W.alloc (.cells #[x] t)).cell? ((⟨g,0,none⟩:Addr).add j)=some u:=by
 intro j u a;subst b;rw[Z5,Nat.zero_add,(J0.new W t #[x]).cell]
 simpa using a
def Y7(a:List Mr):List B_:=a.map (·.2.2)
def A7m(b:List Mr)(s:B_)(w:W_)(e:Ending)(w':W_):Prop :=
 ∃M a,e=.returned (.map (some M))/\Mp w' M sv a/\(∀q∈b,A6 a q.2.2=if r7 (S0 q.1.t).1 s.data.toList then some A3W else none)/\Below w.heap.size w w'
theorem B3d{n:B_}(h:n.size=0):n=⟨#[]⟩:=ByteArray.ext (Array.eq_empty_of_size_eq_zero (by simpa using h))
theorem B2M(l j:List B_)(o:l=A0M j)(s a:B_)(n:a∈j):A6 (A4X l (G8 (l.map λs=>s.data.toList) s.data.toList s.size)) a=if r7 a.data.toList s.data.toList then some A3W else none:=by
 rw[B7G]
 have key:((∃p∈G8 (l.map λs=>s.data.toList) s.data.toList s.size,l.getD p.1 ⟨#[]⟩=a)\/a=⟨#[]⟩)↔r7 a.data.toList s.data.toList=true:=by
  by_cases h0:a.size=0
  .have k:=B3d h0
   refine⟨λ_=>?_,λ_=>.inr k⟩;rw[A23,k];exact⟨[],s.data.toList,rfl⟩
  .have g:a≠⟨#[]⟩:=λe=>h0 (by rw[e];rfl)
   have i:a∈l:=by rw[o];exact A6e.2 ⟨n,h0⟩
   have c:a.data.toList≠[]:=λe=>h0 (by
    have:a.data.toList.length=a.size:=by simp
    rw[e] at this
    simpa using this.symm)
   have d:=A78 (l.map λs=>s.data.toList) s.data.toList a.data.toList c;rw[show s.data.toList.length=s.size by simp] at d;have m:a.data.toList∈l.map (λs=>s.data.toList):=List.mem_map.2 ⟨a,i,rfl⟩;constructor
   .rintro (⟨p,f,b⟩|h)
    .refine(d.1 ⟨p,f,?_⟩).2
     rw[←b];simp only[List.getD,List.getElem?_map];cases l[p.1]? <;> rfl
    .exact absurd h g
   .intro h
    obtain⟨p,f,b⟩:=d.2 ⟨m,h⟩;refine .inl ⟨p,f,?_⟩;simp only[List.getD,List.getElem?_map] at b ⊢;cases hx:l[p.1]? with
    | none=>rw[hx] at b;exact absurd b.symm c
    | some x =>
      rw[hx] at b;exact ByteArray.ext (Array.toList_inj.1 b)
 by_cases h:r7 a.data.toList s.data.toList=true
 .rw[if_pos (key.2 h),if_pos h]
 .rw[if_neg (λe=>h (key.1 e)),if_neg h]
theorem B2v{B b:Nat}{m:SS}{c:List Mr}{A:V_}{w:W_}(h:M1 B b m c A w):okN (A0M (Y7 c)):=by
 refine⟨?_,λs f=>?_,A8l _⟩
 .have a:=A6f (Y7 c)
  have k:=h.len;unfold Y7 at a ⊢;rw[List.length_map] at a;omega
 .obtain⟨a,k⟩:=A6e.1 f
  obtain⟨q,d,rfl⟩:=List.mem_map.1 a;refine⟨by omega,?_⟩;have j:=(h.mem q d).2;have i:=h.ok.read q.1 (by rw[h.ms];exact List.mem_map.2 ⟨q,d,rfl⟩);obtain⟨_,_,n,_⟩:=T5 i;have l:=A2A q.1.t;have g:q.2.2.data.toList.length=q.2.2.size:=by simp
  rw[j] at g;omega
theorem B2u(l:List B_)(c:V_)(w:W_)(m:Rd1 w c (T0 l))(b:okN l)(ws:List (List U_))(a:ws=l.map (λs=>s.data.toList)):
 Calls prog 86 #[c] w (λe w'=>e=.returned (.pointer (some ⟨w.heap.size+2,0,none⟩))/\A5x w (w.heap.size+2) c ws w'):=by
 have d:ws.length=l.length:=by rw[a];simp
 refine C0G l c w m b ws a (λp w'=>A5x w p c ws w') (λKs ev i W n=>?_);refine(B9n w W (w.heap.size+2) c _ ws Ks ev i n (by rw[d];exact b.1) (λx g=>?_)).mono ?_
 .rw[a] at g
  obtain⟨s,k,rfl⟩:=List.mem_map.1 g;have q:=b.2.1 s k;have h:s.data.toList.length=s.size:=by simp
  refine⟨λe=>?_,by omega⟩;rw[e] at h;simp at h;omega
 .rintro e w'⟨rfl,o,f,j⟩
  exact⟨rfl,_,Ks,i,o,f,j⟩
theorem B0l(B:Nat)(w r f:W_)(M j lb q:Nat)(b:V_)(l:List B_)(s:B_)(T:s.size<=400)(A:okN l)(X:B=w.heap.size)(hM:M<r.heap.size)(t:w.heap.size<=r.heap.size)(o:Below w.heap.size w f)(P:A5x r q b (l.map λs=>s.data.toList) f)(Y:y7 B M j lb b l [] f):
 Calls prog 87 #[.pointer (some ⟨q,0,none⟩),.string s,.func (.func 88) #[] #[.pointer (some ⟨j,0,none⟩),.pointer (some ⟨lb,0,none⟩)]] f (λe w'=>e=.returned (.tuple #[])/\y7 B M j lb b l (G8 (l.map λs=>s.data.toList) s.data.toList s.size) w'/\Below w.heap.size w w'):=by
 obtain⟨ws,d⟩:∃ws,ws=l.map (λs=>s.data.toList):=⟨_,rfl⟩
 rw[←d] at P ⊢;have y:ws.length<=20:=by rw[d,List.length_map];exact A.1
 obtain⟨a,Ks,Q,R,ev,N⟩:=P;have D:∀k∈Ks,k.m≠M:=λk V e=>by have:=N.net.om k V;omega
 have z:=N.older t o;refine(B8F w q b a ws Ks Q R ev y s T _ _ (λdone W=>A2u w q b a ws Ks Q R ev W/\y7 B M j lb b l done W) (λ_ _ h=>h.1) ⟨λdone W W' h o=>⟨h.1.below o,h.2.below o⟩,λdone W i e h C Z O=>?_⟩ f ⟨z,Y⟩).mono ?_
 .obtain⟨x,c,S⟩:=C
  rw[d,List.getElem?_map] at c;cases hli:l[i]? with
  | none=>rw[hli] at c;cases c
  | some sx =>
    refine(C0C B M j lb b l done W h.2 i e sx hli).mono ?_;rintro en w'⟨rfl,H,p⟩;have O:=h.1.below br_.drew;have n:=(h.2.below br_.drew).mp;refine⟨rfl,⟨B4L O n (by rw[←X];exact h.2.bM) D p,H⟩,λg J F=>?_⟩;have E:g<W.drew.heap.size:=(Array.getElem?_eq_some_iff.1 F).1;refine(p.block g E (λe=>?_)).trans F;injection e with e
    subst e;obtain⟨es,L,G,_⟩:=n;have hg':W.drew.heap[g]?=some (Obj.cells J 3 (0,0)):=F;rw[G] at hg';cases hg'
 .rintro e w'⟨rfl,H,p⟩
  exact⟨rfl,p,H.net.keep⟩
theorem B6o(B b:Nat)(m:SS)(c:List Mr)(A:V_)(s:B_)(w:W_)(h:M1 B b m c A w)(hs:s.size<=400):
 Calls prog 54 #[.pointer (some ⟨b,0,none⟩),.string s] w (A7m c s w):=by
 obtain⟨i0,aY,aV,aU,aT⟩:=info_parts A1L;have H:=hid h;obtain⟨Ao,cap,rfl,bF,bE,ac⟩:=h.open_;have bn:=h.len;have c0:w.cell? ⟨b,0,none⟩=some (.slice Ao c.length cap):=h.blk.cell 0;have HM:=hid ac;have hlt:=h.lt;have bC:∀(fn:Fn)(first cap:Array V_) (w:W_),(Instr.makeFunc fn first cap).run prog w=.ok (.func fn first cap) w:=λ_ _ _ _=>rfl
 clear h ac;unfold A7m;go_enter func54,ntmps54;go_wp2_with fail;have aN:Hid (J0 (w.alloc (.cells #[.slice none 0 0] 94)) w.heap.size 94 #[.slice none 0 0]):=hid (J0.new _ _ _);have aJ:Hid (Below w.heap.size w (w.alloc (.cells #[.slice none 0 0] 94))):=hid ba_
 go_loopw [14] (λv14 wr=>∃k:Nat,k<=c.length/\v14=.int .i64 k/\Hid (∃v,J0 wr w.heap.size 94 #[v]/\wr.ownsRow w.heap.size 9 1 v (A0M ((Y7 c).take k)).length (T0 (A0M ((Y7 c).take k))))/\Hid (Below w.heap.size w wr)) (λi _=>c.length - (intOf i).toNat)
 case atStart=>exact⟨0,by omega,rfl,hid ⟨_,aN.out,World.ownsRow_nil _ _ _ _⟩,aJ⟩
 case round =>
  clear aN aJ;obtain⟨k,hk,rfl,HO,HB⟩:=hrel;obtain⟨v,a,f⟩:=HO.out;by_cases hlk:k<c.length
  .obtain⟨g,rfl,hg,aA⟩:=HM.out (by omega)
   have C:c[k]?=some (c[k]'hlk):=List.getElem?_eq_getElem hlk;generalize c[k]'hlk=q at C;obtain⟨m0,m1,m2,m3⟩:=aA wr (λo=>HB.out.cell (p:=⟨g,o,none⟩) hg) k q C;have ax:(Y7 c)[k]?=some q.2.2:=by unfold Y7;rw[List.getElem?_map,C];rfl
   have ag:=B0T ax;have Z:=hid ag;obtain⟨⟨id,tx,t⟩,⟨ng,nc⟩,d⟩:=q;unfold A3O at m2;dsimp only at m0 m1 m2 m3 ag Z;generalize (A0 t).length=N at m2;have k0:(0:Int)<=k:=by omega
   have k1:(k:Int)<c.length:=by omega
   have G:=hid HB.out.size
   have ad:(A0M ((Y7 c).take k)).length<=12:=by
    have h1:=A6f ((Y7 c).take k);rw[List.length_take] at h1;omega
   generalize A0M ((Y7 c).take k)=L at *;have aK:=hid ((Below.refl wr.heap.size wr).alloc (lr_ _) (.cells #[.int .i64 id,.string tx,.slice (some ⟨ng,0,none⟩) N nc,.string d] 97));have x0:wr.cell? ⟨w.heap.size,0,none⟩=some v:=a.cell 0;have xf:=a.frozen 0;have aZ:=a.lt;have D:=hid f;have j:=hid a;have ai:=Rd.of_own f;obtain⟨Y,R,rfl,_,_,_⟩:=A0Y ai;have l:=hid λW (hb:Below wr.heap.size wr W) (r:Bool) (hr:r=true↔d∈L)=>B8D _ L d W (Rd.below ai hb) (by omega) r hr
   obtain⟨N2,E⟩:∃N,N=L.length:=⟨_,rfl⟩
   have ak:=hid E;rw[←E] at x0 l D j ad;clear C aA ax ag a f ai HO;by_cases h0:d.size=0
   .have e2:d.toList.isEmpty=true:=by rw[A83];simp[h0]
    have M:A6K L d=L:=if_neg (λe=>e.1 h0);have aj:=hid M;clear h0 M E;go_wp2_with fail;refine⟨⟨k+1,by omega,by go_num,hid ⟨_,by rw[Z.out,aj.out];exact⟨j.out.alloc _,by rw[←ak.out];exact D.out.alloc _⟩⟩,hid (HB.out.alloc G.out _)⟩,by simp[intOf];omega⟩
   .have e2:d.toList.isEmpty=false:=by rw[A83];exact decide_eq_false h0
    by_cases hin:d∈L
    .have M:A6K L d=L:=if_neg (λe=>e.2 hin)
     have aj:=hid M;have HH:=hid (l.out _ aK.out true ⟨λ_=>hin,λ_=>rfl⟩);have x1:(wr.alloc (.cells #[.int .i64 id,.string tx,.slice (some ⟨ng,0,none⟩) N nc,.string d] 97)).cell? ⟨w.heap.size,0,none⟩=some (.slice Y N2 R):=(j.out.alloc _).cell 0;clear h0 M E hin l
     go_wp2_with (go_at_call 85;refine HH.out.mono ?_;rintro e w2⟨rfl,rfl⟩)
     refine⟨⟨k+1,by omega,by go_num,hid ⟨_,by rw[Z.out,aj.out];exact⟨j.out.alloc _,by rw[←ak.out];exact D.out.alloc _⟩⟩,hid (HB.out.alloc G.out _)⟩,by simp[intOf];omega⟩
    .have aa:A6K L d=L++[d]:=if_pos ⟨h0,hin⟩
     have aG:=hid aa;have HH:=hid (l.out _ aK.out false ⟨(λe=>by cases e),λe=>absurd e hin⟩);have x1:(wr.alloc (.cells #[.int .i64 id,.string tx,.slice (some ⟨ng,0,none⟩) N nc,.string d] 97)).cell? ⟨w.heap.size,0,none⟩=some (.slice Y N2 R):=(j.out.alloc _).cell 0;have HR:=hid ((D.out.alloc (.cells #[.int .i64 id,.string tx,.slice (some ⟨ng,0,none⟩) N nc,.string d] 97)).alloc (.cells #[.string d] 9));have aL:=hid ((j.out.alloc (.cells #[.int .i64 id,.string tx,.slice (some ⟨ng,0,none⟩) N nc,.string d] 97)).alloc (.cells #[.string d] 9));have bk:=hid ((HB.out.alloc G.out (.cells #[.int .i64 id,.string tx,.slice (some ⟨ng,0,none⟩) N nc,.string d] 97)).alloc (by have:=G.out;simp;omega) (.cells #[.string d] 9));have bz:(T0 L).length=N2:=by rw[A4R];exact E.symm
     clear h0 aa E hin l
     go_wp2_with (first
      | (go_at_call 85;refine HH.out.mono ?_;rintro e w2⟨rfl,rfl⟩)
      | (at_builtin;refine wpList_append_own_at _ rfl (.tmp 28) (.tmp 31) _ rfl w.heap.size 9 i0 _ 1 16 underlying94 aY aV aU aT rfl (by omega) _ N2 (T0 L) rfl HR.out ⟨wr.heap.size+1,0,none⟩ 1 1 [.string d] rfl rfl (L9 _ _ _ _ (by simp)) (by simp[Value.oneCell']) (by unfold maxLen;omega) (by omega) (by have:=G.out;simp;omega) ?_))
     intro v' w' n ah _ hat';obtain⟨bI,n2,bt,rfl,_,_,_,_⟩:=Rd.of_own n;have ay:some w.heap.size≠(Value.slice Y N2 R).ownBlock:=λe=>C2 HR.out aL.out (by decide) e.symm
     have V:=m5 aL.out ah ay;have o1:w'.cell? ⟨w.heap.size,0,none⟩=some (.slice Y N2 R):=V.cell 0;have f1:w'.frozen? ⟨w.heap.size,0,none⟩=false:=V.frozen 0;have aH:=hid n;have bh:=hid ah;have aM:=hid V;clear n ah hat' V ay;go_wp2_with fail;have a_:=J4 bk.out (lr_ _) (by have:=G.out;simp;omega) HR.out bh.out;refine⟨⟨k+1,by omega,by go_num,hid ⟨_,aM.out.set_ 0 _,?_⟩,hid (a_.setCell (p:=⟨w.heap.size,0,none⟩) (lr_ _) _)⟩,by simp[intOf];omega⟩;rw[Z.out,aG.out,List.length_append,List.length_singleton,←ak.out];have h1:T0 (L++[d])=T0 L++[.string d]:=by simp[T0]
     rw[h1];exact aH.out.kept (R3 w' w.heap.size 0 _) (.inr (C2 aH.out aM.out (by decide)))
  .obtain rfl:k=c.length:=by omega
   have bB:=@run_makeMap prog;have S:=B2v H.out;have az:(Y7 c).take c.length=Y7 c:=List.take_of_length_le (by simp[Y7]);rw[az] at f;have ae:=hid λq (hq:q∈c)=>B2M _ (Y7 c) rfl s q.2.2 (List.mem_map.2 ⟨q,hq,rfl⟩)
   have ad:(A0M (Y7 c)).length<=20:=S.1;generalize A0M (Y7 c)=L at *;have be:=hid S;have aZ:=a.lt;have aD:=HB.out.size;obtain⟨Q,av,ab,T,aX⟩:=(Mp.new wr sv).update A3M underlying104 ⟨#[]⟩ A3W;replace av:(Instr.mapUpdate 104 (.map (some wr.heap.size)) (.string ⟨#[]⟩) (.int .i64 1)).run prog (wr.alloc (.map #[] 0))=.ok () Q:=av;have hs3':Q.heap.size=wr.heap.size+1:=by rw[aX];simp
   have F:y7 w.heap.size wr.heap.size Q.heap.size w.heap.size v L [] (Q.alloc (.cells #[.map (some wr.heap.size)] 104)):=by
    have aC:=a.alloc (.map #[] 0);have aw:=f.alloc (.map #[] 0);exact⟨aD,J0.new Q _ _,(m5 aC T (A1I aC (Mp.new wr sv))).alloc _,(aw.kept T (A3Q aw (Mp.new wr sv))).alloc _,ab.below ba_⟩
   have aF:Below w.heap.size w Q:=((HB.out.alloc aD (.map #[] 0))).grown T (by simp;omega) (λg e=>by injection e with e;omega);obtain⟨y,X⟩:∃y,y=Q.alloc (.cells #[.map (some wr.heap.size)] 104):=⟨_,rfl⟩
   have aE:Below w.heap.size w y:=by rw[X];exact aF.alloc (by omega) _
   rw[←X] at F;have am:=hid F;have bm:=hid aE;have P:=hid (B2u L v y (Rd.of_own F.row) S _ rfl);have l4:y.cell? ⟨w.heap.size,0,none⟩=some v:=F.box.cell 0;obtain⟨Y,vn,R,rfl,_,_,_,_⟩:=Rd.of_own F.row;have aW:y.heap.size=wr.heap.size+2:=by rw[X];simp[hs3']
   have hs4':w.heap.size<=y.heap.size:=by omega
   have ba:wr.heap.size<y.heap.size:=by omega
   have HE:Hid (∀z Nb,Below y.heap.size y z->A5x y Nb (.slice Y vn R) (L.map λs=>s.data.toList) z->Calls prog 87 #[.pointer (some ⟨Nb,0,none⟩),.string s,.func (.func 88) #[] #[.pointer (some ⟨Q.heap.size,0,none⟩),.pointer (some ⟨w.heap.size,0,none⟩)]] z (λe w'=>e=.returned (.tuple #[])/\y7 w.heap.size wr.heap.size Q.heap.size w.heap.size (.slice Y vn R) L (G8 (L.map λs=>s.data.toList) s.data.toList s.size) w'/\Below w.heap.size w w')):=hid λz Nb hb J =>
    B0l w.heap.size w y z wr.heap.size Q.heap.size w.heap.size Nb _ L s hs be.out rfl ba hs4' (bm.out.trans (hb.mono hs4')) J (am.out.below hb)
   rw[hs3'] at HE;rw[aW] at P;have aI:Hid (∀w',y7 w.heap.size wr.heap.size (wr.heap.size+1) w.heap.size (.slice Y vn R) L (G8 (L.map λs=>s.data.toList) s.data.toList s.size) w'->w'.cell? ⟨wr.heap.size+1,0,none⟩=some (.map (some wr.heap.size))):=hid λw' h=>h.out.cell 0
   have O:Hid (∀z,A5x y (wr.heap.size+2+2) (.slice Y vn R) (L.map λs=>s.data.toList) z->Below y.heap.size y z/\z.cell? ⟨wr.heap.size+1,0,none⟩=some (.map (some wr.heap.size))):=hid λz J=>by
    obtain⟨_,_,_,_,_,J⟩:=J;refine⟨J.net.keep,?_⟩;have:=(am.out.below J.net.keep).out.cell 0;rw[hs3'] at this;exact this
   obtain⟨ws,af⟩:∃ws,ws=L.map (λs=>s.data.toList):=⟨_,rfl⟩
   rw[←af] at P HE aI O ae;have bJ:=hid af;subst X;clear a f ab T F aF aE S az HO am af
   go_wp2_with (go_at_call 86;refine P.out.mono ?_;rintro e z⟨rfl,J⟩;have bK:=hid J;have h5:=(O.out z J).2;have bi:=hid (HE.out z _ (O.out z J).1 J);clear J)
   refine bi.out.mono ?_;rintro e w6⟨rfl,h6,aB⟩;have o6:=aI.out w6 h6;have H6:=hid h6;have bl:=hid aB;clear h6 aB h5;go_wp2_with fail;go_ret;refine⟨wr.heap.size,_,rfl,H6.out.mp,λq hq=>?_,bl.out⟩;have:=ae.out q hq;rw[(H.out.mem q hq).2] at this;exact this
theorem B1Z{w:W_}{o n k j i h:Nat}{c b:TypeId}{v1 v2:V_}{f d:List V_}(m:w.ownsRow o c i v1 k f)(l:w.ownsRow n b h v2 j d)(a:c≠b):v1.ownBlock=none\/v1.ownBlock≠v2.ownBlock:=by
 rcases m.2 with ⟨rfl,_⟩|⟨g,cap,cur,rfl,_,hgg,_⟩
 .exact .inl rfl
 .refine .inr λe=>?_
  rcases l.2 with ⟨rfl,_⟩|⟨g',cap',cur',rfl,_,hgg',_⟩
  .cases e
  .have:g=g':=Option.some.inj e
   subst this;rw[hgg] at hgg';injection hgg' with hgg'
   injection hgg' with _ hgg' _
   exact a hgg'
noncomputable def r8(s:List U_)(a:List Mr)(k:Nat):List (Nat×Nat×Nat):=((a.take k).map (·.1)).flatMap (r5 s)
def A3J(on:Bool)(s:List U_)(a:List Mr)(k:Nat):Nat:=(((a.take k).map (·.1)).filter λx=>!on || r7 (S0 x.t).1 s).length
theorem A4a{s:List U_}{a:List Mr}{k:Nat}{q:Mr}(h:a[k]?=some q):r8 s a (k+1)=r8 s a k++r5 s q.1:=by
 unfold r8;rw[X3 h,List.map_append,List.flatMap_append];simp
theorem A7H{on:Bool}{s:List U_}{a:List Mr}{k:Nat}{q:Mr}(h:a[k]?=some q):A3J on s a (k+1)=A3J on s a k+if !on || r7 (S0 q.1.t).1 s then 1 else 0:=by
 unfold A3J;rw[X3 h,List.map_append,List.filter_append,List.length_append]
 congr 1
 simp only[List.map_cons,List.map_nil,List.filter_cons,List.filter_nil]
 split <;> rfl
theorem A32(s:B_)(t:Rx)(a:s.size<=400):(Y0 s.data.toList t 0).length<=401:=by
 have:=A1R (V5 s.data.toList t) 0;have b:s.data.toList.length=s.size:=by simp
 unfold Y0;omega
theorem B7{w w':W_}{base n a:Nat}{e:TypeId}{v:V_}{c:List V_}(h:w.ownsRow base e a v n c)(b:Below w.heap.size w w'):w'.ownsRow base e a v n c:=h.kept (row:=none) ⟨b.os,b.tape,b.output,b.size,λi d _=>b.block i d⟩ (by cases v.ownBlock <;> simp)
theorem A8j(W:W_)(t:TypeId)(x y z:V_)(g:Nat)(b:g=W.heap.size):∀(j:Nat)(u:V_),[x,y,z][j]?=some u->(W.alloc (.cells #[x,y,z] t)).cell? ((⟨g,0,none⟩:Addr).add j)=some u:=by
 intro j u a;subst b;rw[Z5,Nat.zero_add,(J0.new W t #[x,y,z]).cell]
 simpa using a
def B07(m:SS)(s:List U_)(B b:Nat)(w:W_)(e:Ending)(w':W_):Prop :=
 ∃(v:V_)(a:List Mr) (A:V_),e=.returned (.tuple #[v,.nilIface])/\w'.ownsRow w.heap.size 70 3 v (m.hits s).length ((m.hits s).flatMap Q0)/\M1 B b (m.scan s) a A w'/\SK B b w w'
theorem B3n(B b:Nat)(m:SS)(a:List Mr)(A:V_)(s:B_)(w:W_)(h:M1 B b m a A w)(c:400<s.size):
 Calls prog 26 #[.pointer (some ⟨b,0,none⟩),.string s] w (λe w'=>e=.returned (.tuple #[.slice none 0 0,m7 3])/\w=w'):=by
 have d:=dt_ ((400:Int)<s.size);rw[L8 (by decide)];clear h;go_enter func26,ntmps26;go_wp2;go_ret2;exact⟨rfl,rfl⟩
theorem B9Q(B b:Nat)(m:SS)(z:List Mr)(A:V_)(s:B_)(w:W_)(h:M1 B b m z A w)(hs:s.size<=400):
 Calls prog 26 #[.pointer (some ⟨b,0,none⟩),.string s] w (λe w'=>B07 m s.data.toList B b w e w'/\w.grownBy w' (some b)):=by
 obtain⟨i0,bh,aZ,aY,aX⟩:=info_parts A8s;have H:=hid h;have aM:=hid (B6o B b m z A s w h hs);unfold A7m at aM;obtain⟨Ao,cap,rfl,cf,ce,aE⟩:=h.open_;have bM:=h.len;have hd:=df_ ((400:Int)<s.size);have c0:w.cell? ⟨b,0,none⟩=some (.slice Ao z.length cap):=h.blk.cell 0;have c2:w.cell? ⟨b,2,none⟩=some (.bool m.on):=h.blk.cell 2;have HM:=hid aE;have hlt:=h.lt;have bF:=hid λt=>A32 s t hs
 have bm:=hid hs;obtain⟨on,aG⟩:∃on,on=m.on:=⟨_,rfl⟩
 have bG:=hid aG;rw[←aG] at c2;clear h aE hs aG;unfold B07;go_enter func26,ntmps26;go_wp2_with fail;refine aM.out.mono ?_;rintro e w1⟨M,aF,rfl,bf,d,aC⟩;have l:=hid bf;have bq:=hid d;have br:=hid aC;have H1:=hid (H.out.below aC);have d0:w1.cell? ⟨b,0,none⟩=some (.slice Ao z.length cap):=(aC.cell (p:=⟨b,0,none⟩) hlt).trans c0;clear bf d aC aM;go_wp2_with fail
 go_loopw [7,8,27] (λv7 v8 v27 wr=>∃(k n:Nat),k<=z.length/\n<=k/\v27=.int .i64 k/\v8=.int .i64 n/\Hid (n=A3J on s.data.toList z k)/\Hid (wr.ownsRow w.heap.size 70 3 v7 (r8 s.data.toList z k).length ((r8 s.data.toList z k).flatMap Q0))/\Hid ((r8 s.data.toList z k).length<=401*k)/\Hid (Below w.heap.size w wr)/\Hid (Mp wr M sv aF)) (λ_ _ i _=>z.length - (intOf i).toNat)
 case atStart=>exact⟨0,0,by omega,by omega,rfl,rfl,hid rfl,hid (World.ownsRow_nil _ _ _ _),hid (by simp[r8]),br,l⟩
 case round =>
  clear l br d0 H1;obtain⟨k,n,hk,b_,rfl,rfl,HN,O,HF,r,l⟩:=hrel;by_cases aa:k<z.length
  .obtain⟨g,rfl,hg,bi⟩:=HM.out (by omega)
   have d:z[k]?=some (z[k]'aa):=List.getElem?_eq_getElem aa;generalize z[k]'aa=q at d;obtain⟨m0,m1,m2,m3⟩:=bi wr (λo=>r.out.cell (p:=⟨g,o,none⟩) hg) k q d;have hq:=bq.out q (List.mem_of_getElem? d);have X:=hid (A4a (s:=s.data.toList) d);have ay:=hid (A7H (on:=on) (s:=s.data.toList) d);have be:=H.out.mem q (List.mem_of_getElem? d);have bd:=H.out.ok.read q.1 (by rw[H.out.ms];exact List.mem_map.2 ⟨q,List.mem_of_getElem? d,rfl⟩);obtain⟨_,_,bD,aD,_⟩:=T5 bd;have f:=hid λW (hb:Below w.heap.size w W)=>B55 (A0 q.1.t) q.1.t rfl bD aD s bm.out (A3O q) W (Rd.below (Rd.of_own be.1) hb)
   unfold A9v at f;have ag:=hid (bF.out q.1.t);have bl:r7 (S0 q.1.t).1 s.data.toList=false->r5 s.data.toList q.1=[]:=λh=>by unfold r5;rw[B2s h];rfl
   have al:=hid bl;obtain⟨⟨c,tx,t⟩,⟨ng,nc⟩,nd⟩:=q;unfold A3O at m2 f;dsimp only at m0 m1 m2 m3 hq X ay f ag al;generalize (A0 t).length=N at m2 f;unfold r5 at X al;dsimp only at X al;generalize Y0 s.data.toList t 0=SP at X al ag f;generalize r7 (S0 t).1 s.data.toList=st at hq ay al;generalize r8 s.data.toList z k=S at *;obtain⟨S',aJ⟩:∃S',S'=r8 s.data.toList z (k+1):=⟨_,rfl⟩
   rw[←aJ] at X;have aj:=hid aJ;clear aJ;have k0:(0:Int)<=k:=by omega
   have k1:(k:Int)<z.length:=by omega
   have e2:wr.cell? ⟨b,2,none⟩=some (.bool on):=(r.out.cell (p:=⟨b,2,none⟩) hlt).trans c2;have e0:wr.cell? ⟨b,0,none⟩=some (.slice (some ⟨g,0,none⟩) z.length cap):=(r.out.cell (p:=⟨b,0,none⟩) hlt).trans c0;have aI:b<wr.heap.size:=Nat.lt_of_lt_of_le hlt r.out.size;have R:=hid (r.out.alloc r.out.size (.cells #[.int .i64 c,.string tx,.slice (some ⟨ng,0,none⟩) N nc,.string nd] 97));have G:=hid (l.out.below ((Below.refl wr.heap.size wr).alloc (lr_ _) (.cells #[.int .i64 c,.string tx,.slice (some ⟨ng,0,none⟩) N nc,.string nd] 97)));clear d bi be bd aD bl;cases on with
   | false =>
     go_wp2_with fail;refine(f.out _ R.out).mono ?_;rintro e w2⟨A2,aK,rfl,au,E⟩;have aB:=hid (R.out.trans (E.mono R.out.size));have ad:=hid (B7 (O.out.alloc (.cells #[.int .i64 c,.string tx,.slice (some ⟨ng,0,none⟩) N nc,.string nd] 97)) E);have V:=hid (G.out.below E);have Y:=hid ((J0.new wr 97 #[.int .i64 c,.string tx,.slice (some ⟨ng,0,none⟩) N nc,.string nd]).kept E);have F:=hid au;have bC:=HF.out;have bk:=ag.out;generalize (wr.alloc (.cells #[.int .i64 c,.string tx,.slice (some ⟨ng,0,none⟩) N nc,.string nd] 97)).heap.size=BS at F;clear au E f O l G r R e0 e2 m0 m1 m2 m3 HF;clear aI;generalize wr.heap.size=CB at *;go_wp2_with fail
     go_loopw [7,56] (λv7 v56 wx=>∃(j:Nat),j<=SP.length/\v56=.int .i64 j/\Hid (wx.ownsRow w.heap.size 70 3 v7 (S.length+j) ((S++(SP.take j).map (λp=>(c,p.1,p.2))).flatMap Q0))/\Hid (wx.ownsRow BS 68 2 (.slice A2 SP.length aK) SP.length (Z3 SP))/\Hid (Below w.heap.size w wx)/\Hid (Mp wx M sv aF)/\Hid (J0 wx CB 97 #[.int .i64 c,.string tx,.slice (some ⟨ng,0,none⟩) N nc,.string nd])) (λ_ v _=>SP.length - (intOf v).toNat)
     case atStart=>exact⟨0,by omega,rfl,by simpa using ad,F,aB,V,Y⟩
     case round =>
      have a_:True:=trivial;clear ad F aB V Y;obtain⟨j,hj,rfl,O,ac,r,l,P⟩:=hrel;by_cases hjl:j<SP.length
      .obtain⟨A3,bE,Z,bB,bA,aq⟩:=Y9 (Rd.of_own ac.out)
       injection Z with Z _ hv5
       subst Z;subst hv5;obtain⟨b2,aV,rfl,bj,T⟩:=aq (by omega);have L:SP[j]?=some (SP[j]'hjl):=List.getElem?_eq_getElem hjl;generalize SP[j]'hjl=p at L;obtain⟨x,y⟩:=p;obtain⟨x0,x1⟩:=T _ (λ_=>rfl) j x y L;have aL:=hid (X3 L);have y0:=P.out.cell 0;have bz:=P.out.lt;have Q:=hid r.out.size;have j0:(0:Int)<=j:=by omega
       have j1:(j:Int)<SP.length:=by omega
       have av:Hid (((S++(SP.take j).map (λp=>(c,p.1,p.2)))).length=S.length+j):=hid (by rw[List.length_append,List.length_map,List.length_take];omega);have HR:=hid ((O.out.alloc (.cells #[.int .i64 x,.int .i64 y] 68)).alloc (.cells #[.int .i64 c,.int .i64 x,.int .i64 y] 70));have ab:=hid ((ac.out.alloc (.cells #[.int .i64 x,.int .i64 y] 68)).alloc (.cells #[.int .i64 c,.int .i64 x,.int .i64 y] 70));have aA:=hid ((r.out.alloc Q.out (.cells #[.int .i64 x,.int .i64 y] 68)).alloc (by have:=Q.out;simp;omega) (.cells #[.int .i64 c,.int .i64 x,.int .i64 y] 70));have af:=hid ((P.out.alloc (.cells #[.int .i64 x,.int .i64 y] 68)).alloc (.cells #[.int .i64 c,.int .i64 x,.int .i64 y] 70));have ae:=hid (l.out.below (((Below.refl wr.heap.size wr).alloc (lr_ _) (.cells #[.int .i64 x,.int .i64 y] 68)).alloc (by simp) (.cells #[.int .i64 c,.int .i64 x,.int .i64 y] 70)))
       have aw:((S++(SP.take (j+1)).map (λp=>(c,p.1,p.2)))).flatMap Q0=(S++(SP.take j).map (λp=>(c,p.1,p.2))).flatMap Q0++[.int .i64 c,.int .i64 x,.int .i64 y]:=by
        rw[aL.out,List.map_append,←List.append_assoc,List.flatMap_append];simp[Q0]
       have ax:=hid aw;have bw:((S++(SP.take j).map (λp=>(c,p.1,p.2))).flatMap Q0).length=(S.length+j)*3:=by rw[hits_len,av.out]
       generalize (S++(SP.take j).map (λp=>(c,p.1,p.2))).flatMap Q0=L3 at *;clear L T aq aw O ac r l P av
       go_wp2_with (at_builtin;refine wpList_append_own_at _ rfl (.tmp 60) (.tmp 66) _ rfl w.heap.size 70 i0 _ 3 24 underlying64 bh aZ aY aX rfl (by omega) _ (S.length+j) L3 rfl HR.out ⟨wr.heap.size+1,0,none⟩ 1 1 [.int .i64 c,.int .i64 x,.int .i64 y] rfl rfl (A8j _ _ _ _ _ _ (by simp)) (by intro u hu;simp at hu;rcases hu with rfl | rfl | rfl <;> rfl) (by unfold maxLen;omega) (by omega) (by have:=Q.out;simp;omega) ?_)
       intro v' w' C D _ hat';have az:=hid C;have aN:=hid (ab.out.kept D (B1Z ab.out HR.out (by decide)));have aS:=hid (J4 aA.out (lr_ _) (by have:=Q.out;simp;omega) HR.out D)
       have aP:=hid (ae.out.kept D (λe=>by
        rcases A3Q HR.out ae.out with h|h
        .rw[h] at e;cases e
        .exact h e.symm))
       have aR:=hid (m5 af.out D (λe=>C2 HR.out af.out (by decide) e.symm));clear C D hat' HR ab aA ae af;go_wp2_with fail;go_roundw
       case rel=>exact⟨j+1,by omega,by go_num,hid (by rw[ax.out];exact az.out),aN,aS,aP,aR⟩
       case measure=>simp[intOf];omega
      .obtain rfl:j=SP.length:=by omega
       have J:S'=S++SP.map (λp=>(c,p.1,p.2)):=X.out
       have aO:Hid (wr.ownsRow w.heap.size 70 3 u7 S'.length (S'.flatMap Q0)):=hid (by
        have:=O.out;rw[List.take_length] at this;rw[J,List.length_append,List.length_map];exact this)
       have aQ:Hid (S'.length<=401*(k+1)):=hid (by rw[J,List.length_append,List.length_map];omega);clear O J;go_wp2_with fail;go_roundw
       case rel=>exact⟨k+1,n+1,by omega,by omega,by go_num,by go_num,hid (by rw[ay.out,←HN.out];simp),hid (by rw[←aj.out];exact aO.out),hid (by rw[←aj.out];exact aQ.out),r,l⟩
       case measure=>simp[intOf];omega
   | true =>
     cases st with
     | true =>
       have aa:=G.out.look_some A3M underlying104 (a:=nd) (v:=A3W) (by rw[hq];rfl) false;simp only[sv,A3W,Bool.false_eq_true,if_false] at aa;clear hq;go_wp2_with fail;refine(f.out _ R.out).mono ?_;rintro e w2⟨A2,aK,rfl,au,E⟩;have aB:=hid (R.out.trans (E.mono R.out.size));have ad:=hid (B7 (O.out.alloc (.cells #[.int .i64 c,.string tx,.slice (some ⟨ng,0,none⟩) N nc,.string nd] 97)) E);have V:=hid (G.out.below E);have Y:=hid ((J0.new wr 97 #[.int .i64 c,.string tx,.slice (some ⟨ng,0,none⟩) N nc,.string nd]).kept E);have F:=hid au;have bC:=HF.out;have bk:=ag.out;generalize (wr.alloc (.cells #[.int .i64 c,.string tx,.slice (some ⟨ng,0,none⟩) N nc,.string nd] 97)).heap.size=BS at F;clear au E f O l G r R e0 e2 m0 m1 m2 m3 HF;clear aI;generalize wr.heap.size=CB at *;go_wp2_with fail
       go_loopw [7,56] (λv7 v56 wx=>∃(j:Nat),j<=SP.length/\v56=.int .i64 j/\Hid (wx.ownsRow w.heap.size 70 3 v7 (S.length+j) ((S++(SP.take j).map (λp=>(c,p.1,p.2))).flatMap Q0))/\Hid (wx.ownsRow BS 68 2 (.slice A2 SP.length aK) SP.length (Z3 SP))/\Hid (Below w.heap.size w wx)/\Hid (Mp wx M sv aF)/\Hid (J0 wx CB 97 #[.int .i64 c,.string tx,.slice (some ⟨ng,0,none⟩) N nc,.string nd])) (λ_ v _=>SP.length - (intOf v).toNat)
       case atStart=>exact⟨0,by omega,rfl,by simpa using ad,F,aB,V,Y⟩
       case round =>
        have a_:True:=trivial;clear ad F aB V Y;obtain⟨j,hj,rfl,O,ac,r,l,P⟩:=hrel;by_cases hjl:j<SP.length
        .obtain⟨A3,bE,Z,bB,bA,aq⟩:=Y9 (Rd.of_own ac.out)
         injection Z with Z _ hv5
         subst Z;subst hv5;obtain⟨b2,aV,rfl,bj,T⟩:=aq (by omega);have L:SP[j]?=some (SP[j]'hjl):=List.getElem?_eq_getElem hjl;generalize SP[j]'hjl=p at L;obtain⟨x,y⟩:=p;obtain⟨x0,x1⟩:=T _ (λ_=>rfl) j x y L;have aL:=hid (X3 L);have y0:=P.out.cell 0;have bz:=P.out.lt;have Q:=hid r.out.size;have j0:(0:Int)<=j:=by omega
         have j1:(j:Int)<SP.length:=by omega
         have av:Hid (((S++(SP.take j).map (λp=>(c,p.1,p.2)))).length=S.length+j):=hid (by rw[List.length_append,List.length_map,List.length_take];omega);have HR:=hid ((O.out.alloc (.cells #[.int .i64 x,.int .i64 y] 68)).alloc (.cells #[.int .i64 c,.int .i64 x,.int .i64 y] 70));have ab:=hid ((ac.out.alloc (.cells #[.int .i64 x,.int .i64 y] 68)).alloc (.cells #[.int .i64 c,.int .i64 x,.int .i64 y] 70));have aA:=hid ((r.out.alloc Q.out (.cells #[.int .i64 x,.int .i64 y] 68)).alloc (by have:=Q.out;simp;omega) (.cells #[.int .i64 c,.int .i64 x,.int .i64 y] 70));have af:=hid ((P.out.alloc (.cells #[.int .i64 x,.int .i64 y] 68)).alloc (.cells #[.int .i64 c,.int .i64 x,.int .i64 y] 70));have ae:=hid (l.out.below (((Below.refl wr.heap.size wr).alloc (lr_ _) (.cells #[.int .i64 x,.int .i64 y] 68)).alloc (by simp) (.cells #[.int .i64 c,.int .i64 x,.int .i64 y] 70)))
         have aw:((S++(SP.take (j+1)).map (λp=>(c,p.1,p.2)))).flatMap Q0=(S++(SP.take j).map (λp=>(c,p.1,p.2))).flatMap Q0++[.int .i64 c,.int .i64 x,.int .i64 y]:=by
          rw[aL.out,List.map_append,←List.append_assoc,List.flatMap_append];simp[Q0]
         have ax:=hid aw;have bw:((S++(SP.take j).map (λp=>(c,p.1,p.2))).flatMap Q0).length=(S.length+j)*3:=by rw[hits_len,av.out]
         generalize (S++(SP.take j).map (λp=>(c,p.1,p.2))).flatMap Q0=L3 at *;clear L T aq aw O ac r l P av
         go_wp2_with (at_builtin;refine wpList_append_own_at _ rfl (.tmp 60) (.tmp 66) _ rfl w.heap.size 70 i0 _ 3 24 underlying64 bh aZ aY aX rfl (by omega) _ (S.length+j) L3 rfl HR.out ⟨wr.heap.size+1,0,none⟩ 1 1 [.int .i64 c,.int .i64 x,.int .i64 y] rfl rfl (A8j _ _ _ _ _ _ (by simp)) (by intro u hu;simp at hu;rcases hu with rfl | rfl | rfl <;> rfl) (by unfold maxLen;omega) (by omega) (by have:=Q.out;simp;omega) ?_)
         intro v' w' C D _ hat';have az:=hid C;have aN:=hid (ab.out.kept D (B1Z ab.out HR.out (by decide)));have aS:=hid (J4 aA.out (lr_ _) (by have:=Q.out;simp;omega) HR.out D)
         have aP:=hid (ae.out.kept D (λe=>by
          rcases A3Q HR.out ae.out with h|h
          .rw[h] at e;cases e
          .exact h e.symm))
         have aR:=hid (m5 af.out D (λe=>C2 HR.out af.out (by decide) e.symm));clear C D hat' HR ab aA ae af;go_wp2_with fail;go_roundw
         case rel=>exact⟨j+1,by omega,by go_num,hid (by rw[ax.out];exact az.out),aN,aS,aP,aR⟩
         case measure=>simp[intOf];omega
        .obtain rfl:j=SP.length:=by omega
         have J:S'=S++SP.map (λp=>(c,p.1,p.2)):=X.out
         have aO:Hid (wr.ownsRow w.heap.size 70 3 u7 S'.length (S'.flatMap Q0)):=hid (by
          have:=O.out;rw[List.take_length] at this;rw[J,List.length_append,List.length_map];exact this)
         have aQ:Hid (S'.length<=401*(k+1)):=hid (by rw[J,List.length_append,List.length_map];omega);clear O J;go_wp2_with fail;go_roundw
         case rel=>exact⟨k+1,n+1,by omega,by omega,by go_num,by go_num,hid (by rw[ay.out,←HN.out];simp),hid (by rw[←aj.out];exact aO.out),hid (by rw[←aj.out];exact aQ.out),r,l⟩
         case measure=>simp[intOf];omega
     | false =>
       have aa:=G.out.look_none A3M underlying104 (a:=nd) (B2E _) (by rw[hq];rfl) false;simp only[sv,Bool.false_eq_true,if_false] at aa;have J:S'=S:=by rw[X.out,al.out rfl,List.append_nil]
       have bn:=hid J;have ad:=hid (O.out.alloc (.cells #[.int .i64 c,.string tx,.slice (some ⟨ng,0,none⟩) N nc,.string nd] 97));clear hq J f;go_wp2_with fail;go_roundw
       case rel=>exact⟨k+1,n,by omega,by omega,by go_num,rfl,hid (by rw[ay.out,←HN.out];simp),hid (by rw[←aj.out,bn.out];exact ad.out),hid (by rw[←aj.out,bn.out];have:=HF.out;omega),R,G⟩
       case measure=>simp[intOf];omega
  .obtain rfl:k=z.length:=by omega
   have bg:SK B b w wr:=SK.of_below H.out.hBw r.out;have ai:=H.out.below r.out;have aH:z.map (·.1)=m.ms:=H.out.ms.symm;have ht:r8 s.data.toList z z.length=m.hits s.data.toList:=by unfold r8 SS.hits;rw[List.take_length,aH]
   have hn:n=(m.tries s.data.toList).length:=by rw[HN.out];unfold A3J SS.tries;rw[List.take_length,aH,bG.out]
   have bb:s.data.toList.length=s.size:=by simp
   have bc:m.scan s.data.toList={ m with tried:=n }:=by unfold SS.scan;rw[if_pos (by rw[bb];exact bm.out),hn]
   have ar:=ai.put { m with tried:=n } rfl (H.out.ok.tried m.on n) H.out.lastb 3 (.int .i64 n) (by simp);have cd:=ai.blk.frozen 3;have h3:wr.cell? ⟨b,3,none⟩=some (.int .i64 m.tried):=ai.blk.cell 3;rw[←bc] at ar;rw[ht] at O;have az:=hid (O.out.kept (R3 wr b 3 (.int .i64 n)) (.inr (C2 O.out ai.blk (by decide))));have bo:=hid ar;have bH:=hid (bg.trans (SK.set H.out.hB wr 3 (.int .i64 n)));have aI:b<wr.heap.size:=ai.lt;have HG:Hid (w.grownBy (wr.setCell ⟨b,3,none⟩ (.int .i64 n)) (some b)):=hid ⟨r.out.os,r.out.tape,r.out.output,by simpa using r.out.size,λi hi bx=>(Below.heap_setCell wr _ _ i (λe=>bx (by rw[e]))).trans (r.out.block i hi)⟩;clear bg ai aH ht hn bb bc ar HN O HF;go_wp2_with fail;go_ret2;exact⟨⟨_,z,_,rfl,az.out,bo.out,bH.out⟩,HG.out⟩
theorem B71(B b:Nat)(m:SS)(a:List Mr)(A:V_)(s:B_)(w:W_)(h:M1 B b m a A w)(c:s.size<=400):
 Calls prog 26 #[.pointer (some ⟨b,0,none⟩),.string s] w (B07 m s.data.toList B b w):=(B9Q B b m a A s w h c).mono λ_ _ h=>h.1
