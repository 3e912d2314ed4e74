import Derived.Test.YthhcpbfgoofppaaGreatDoorGPl
import Derived.Below
import Derived.Laws.OwnMore
import Derived.Deep.AppendLies
import Derived.Deep.Draws
import Derived.Laws.Rows
import Derived.Laws.MakeOwn
import Derived.Lib.Hide
set_option linter.unusedVariables false
set_option linter.unusedSimpArgs false
open Wf
namespace Wf
open Go Go.RowKit
def Rd(w:W_)(a:Nat)(v:V_)(d:List V_):Prop :=
 ∃(A:Option Addr)(n cap:Nat),v=.slice A n cap/\n<=cap/\cap<=9223372036854775807/\d.length=n*a /\
  (0<n->∃b c,A=some ⟨b,c,none⟩/\∀j u,d[j]?=some u->w.cell? ⟨b,c+j,none⟩=some u)
theorem Rd.keep{w w':W_}{a:Nat}{v:V_}{d:List V_}(h:Rd w a v d)
 (hk:∀b o,b<w.heap.size->w'.cell? ⟨b,o,none⟩=w.cell? ⟨b,o,none⟩):Rd w' a v d:=by
 obtain⟨A,n,cap,f,s,r,q,p⟩:=h;refine⟨A,n,cap,f,s,r,q,λk=>?_⟩;obtain⟨b,c,m,l⟩:=p k;refine⟨b,c,m,λj u i=>?_⟩;have:=l j u i;rw[hk _ _ (World.block_lt_of_cell? w _ this)];exact this
theorem Rd.below{w w':W_}{a:Nat}{v:V_}{c:List V_}(h:Rd w a v c)(d:Below w.heap.size w w'):Rd w' a v c :=
 h.keep λb o hlt=>d.cell (p:=⟨b,o,none⟩) hlt
theorem Rd.nil(w:W_)(a:Nat):Rd w a (.slice none 0 0) []:=⟨none,0,0,rfl,by omega,by omega,by simp,λh=>by omega⟩
def P0(n:Nd):List V_:=[.int .i64 n.op,.int .u64 (n.cls.1:Int),.int .u64 (n.cls.2.1:Int),.int .u64 (n.cls.2.2.1:Int),.int .u64 (n.cls.2.2.2:Int)]
theorem N1(l:List Nd):(l.flatMap P0).length=l.length*5:=by
 induction l with
 | nil=>rfl
 | cons n r ih=>simp[P0] at ih ⊢;omega
theorem A8y(l:List Nd):∀(k j:Nat)(n:Nd),l[k]?=some n->j<5->(l.flatMap P0)[k*5+j]?=(P0 n)[j]?:=by
 induction l with
 | nil=>intro k j n h;simp at h
 | cons m r ih =>
   intro k j n h a;rcases k with _|k
   .simp at h
    subst h;simp only[List.flatMap_cons,Nat.zero_mul,Nat.zero_add];rw[List.getElem?_append_left (by simpa[P0] using a)]
   .simp only[List.flatMap_cons]
    rw[List.getElem?_append_right (by simp[P0];omega)];have e:(k+1)*5+j - (P0 m).length=k*5+j:=by simp[P0];omega
    rw[e];exact ih k j n (by simpa using h) a
def q7(w:W_)(v:V_)(l:List Nd):Prop:=Rd w 5 v (l.flatMap P0)
theorem q7.open_{w:W_}{v:V_}{l:List Nd}(h:q7 w v l):∃(A:Option Addr)(cap:Nat),v=.slice A l.length cap/\l.length<=cap/\cap<=9223372036854775807 /\
 (0<l.length->∃b c,A=some ⟨b,c,none⟩/\b<w.heap.size/\∀(w':W_),(∀o,w'.cell? ⟨b,o,none⟩=w.cell? ⟨b,o,none⟩)->∀k n,l[k]?=some n ->
   w'.cell? ⟨b,c+k*5,none⟩=some (.int .i64 n.op)/\w'.cell? ⟨b,c+k*5+1,none⟩=some (.int .u64 (n.cls.1:Int))/\w'.cell? ⟨b,c+k*5+2,none⟩=some (.int .u64 (n.cls.2.1:Int)) /\
   w'.cell? ⟨b,c+k*5+3,none⟩=some (.int .u64 (n.cls.2.2.1:Int))/\w'.cell? ⟨b,c+k*5+4,none⟩=some (.int .u64 (n.cls.2.2.2:Int))):=by
 obtain⟨A,n,cap,rfl,B,z,y,s⟩:=h;rw[N1] at y;obtain rfl:n=l.length:=by omega
 refine⟨A,cap,rfl,B,z,λf=>?_⟩;obtain⟨b,c,rfl,r⟩:=s f
 have a:∀k n,l[k]?=some n->∀j u,j<5->(P0 n)[j]?=some u->w.cell? ⟨b,c+(k*5+j),none⟩=some u:=by
  intro k n d j u q m;exact r _ _ (by rw[A8y l k j n d q];exact m)
 have hlt:b<w.heap.size:=by
  have p:l[0]?=some (l[0]'f):=List.getElem?_eq_getElem f;exact World.block_lt_of_cell? w _ (a 0 _ p 0 _ (by omega) rfl)
 refine⟨b,c,rfl,hlt,λw' i k n d=>?_⟩;simp only[i];exact⟨a k n d 0 _ (by omega) rfl,a k n d 1 _ (by omega) rfl,a k n d 2 _ (by omega) rfl,a k n d 3 _ (by omega) rfl,a k n d 4 _ (by omega) rfl⟩
def Rd1(w:W_)(v:V_)(a:List V_):Prop:=Rd w 1 v a
theorem Rd1.open_{w:W_}{v:V_}{c:List V_}(h:Rd1 w v c):∃(A:Option Addr)(cap:Nat),v=.slice A c.length cap/\c.length<=cap/\cap<=9223372036854775807 /\
 (0<c.length->∃b a,A=some ⟨b,a,none⟩/\b<w.heap.size/\∀(w':W_),(∀o,w'.cell? ⟨b,o,none⟩=w.cell? ⟨b,o,none⟩)->∀k u,c[k]?=some u->w'.cell? ⟨b,a+k,none⟩=some u):=by
 obtain⟨A,n,cap,rfl,q,p,r,m⟩:=h;obtain rfl:n=c.length:=by omega
 refine⟨A,cap,rfl,q,p,λd=>?_⟩;obtain⟨b,a,rfl,f⟩:=m d;have l:c[0]?=some (c[0]'d):=List.getElem?_eq_getElem d;exact⟨b,a,rfl,World.block_lt_of_cell? w _ (f 0 _ l),λw' i k u j=>by rw[i];exact f k u j⟩
theorem Rd.of_own{w:W_}{base a n:Nat}{e:TypeId}{v:V_}{c:List V_}(h:w.ownsRow base e a v n c):Rd w a v c:=by
 obtain⟨d,f⟩:=h;rcases f with ⟨rfl,rfl⟩|⟨g,cap,cur,rfl,h3,h4,h5,h6,h7,h8⟩
 .obtain rfl:c=[]:=List.eq_nil_of_length_eq_zero (by simpa using d)
  exact Rd.nil w a
 .refine⟨_,n,cap,rfl,h5,by unfold maxLen at h6;omega,d,λi=>⟨g,0,rfl,λj u b=>?_⟩⟩
  rw[Nat.zero_add,cell_of_row w g j cur e (0,0) h4];rw[←h8] at b;rw[List.getElem?_take] at b
  split at b
  .simpa using b
  .cases b
def J0(w:W_)(g:Nat)(t:TypeId)(cs:Array V_):Prop:=w.heap[g]?=some (.cells cs t (0,0))
section
variable {w w':W_} {g:Nat} {t:TypeId} {cs:Array V_}
theorem J0.lt(h:J0 w g t cs):g<w.heap.size:=by
 rcases Nat.lt_or_ge g w.heap.size with hlt|hge
 .exact hlt
 .unfold J0 at h;rw[Array.getElem?_eq_none hge] at h;cases h
theorem J0.cell(h:J0 w g t cs)(i:Nat):w.cell? ⟨g,i,none⟩=cs[i]?:=cell_of_row w g i cs t (0,0) h
theorem J0.frozen(h:J0 w g t cs)(i:Nat):w.frozen? ⟨g,i,none⟩=false:=frozen_of_row w g i cs t h
theorem J0.new(w:W_)(t:TypeId)(cs:Array V_):J0 (w.alloc (.cells cs t)) w.heap.size t cs:=heap_alloc_new w _
theorem J0.alloc(h:J0 w g t cs)(o:Obj):J0 (w.alloc o) g t cs:=(Below.heap_alloc w o g h.lt).trans h
theorem J0.drew(h:J0 w g t cs):J0 w.drew g t cs:=h
theorem J0.set_(h:J0 w g t cs)(i:Nat)(u:V_):J0 (w.setCell ⟨g,i,none⟩ u) g t (cs.setIfInBounds i u):=by
 unfold J0 at h ⊢;simp[World.setCell,Array.getElem?_modify,h]
theorem J0.far(h:J0 w g t cs){p:Addr}(a:g≠p.block)(u:V_):J0 (w.setCell p u) g t cs:=(Below.heap_setCell w p u g a).trans h
theorem J0.below{B:Nat}(h:J0 w g t cs)(b:Below B w w')(a:g<B):J0 w' g t cs:=(b.block g a).trans h
theorem J0.kept(h:J0 w g t cs)(a:Below w.heap.size w w'):J0 w' g t cs:=h.below a h.lt
end
def A0r(n:Nat)(z:V_):Array V_:=⟨List.replicate n z⟩
theorem b9(n:Nat)(z:V_):(A0r n z).size=n:=by simp[A0r]
theorem j7(n:Nat)(z:V_)(i:Nat)(h:i<n):(A0r n z)[i]?=some z:=by simp[A0r,h]
theorem B4T{P:Program}(t e:TypeId)(i:TypeInfo)(z:V_)(d:P.underlying t=some (.slice e))(f:P.info? e=some i)(c:i.zero=some z)(a:i.size=1)(k:z.cells=#[z])(n:Nat)(l:i.bytes*n<=281474976710656)(j:n<=9223372036854775807)(w:W_):
 (Instr.makeSlice t (.int .i64 n) (.int .i64 n)).run P w=.ok (.slice (some ⟨w.heap.size,0,none⟩) n n) (w.alloc (.cells (A0r n z) e)):=by
 have hb':(i.bytes:Int)*(n:Int)<=281474976710656:=by
  have h:((i.bytes*n:Nat):Int)<=281474976710656:=by omega
  rwa[Int.natCast_mul] at h
 have b:=run_make (P:=P) w t e i z d f c .i64 .i64 n n (by omega) (by omega) hb' (by omega);simp only[Int.toNat_natCast,a,Nat.mul_one,k] at b;rw[b]
 congr 4
 apply Array.ext';rw[toList_madeCells_one]
 rfl
theorem o7(l:List Nd):∀u∈l.flatMap P0,u.oneCell'=true:=by
 intro u a;rw[List.mem_flatMap] at a;obtain⟨n,_,b⟩:=a;simp[P0] at b;rcases b with rfl|rfl|rfl|rfl|rfl <;> rfl
theorem Z5(b a j:Nat):(⟨b,a,none⟩:Addr).add j=⟨b,a+j,none⟩:=by
 unfold Addr.add
 split
 .rename_i h;subst h;rfl
 .rfl
theorem Rd.src{w:W_}{a:Nat}{v:V_}{c:List V_}(h:Rd w a v c)(q:0<a):∃(A:Option Addr)(n cap:Nat),v=.slice A n cap/\c.length=n*a/\(0<n->∃d,A=some d/\d.block<w.heap.size/\∀(j:Nat)(u:V_),c[j]?=some u->w.cell? (d.add j)=some u):=by
 obtain⟨A,n,cap,rfl,s,r,k,p⟩:=h;refine⟨A,n,cap,rfl,k,λf=>?_⟩;obtain⟨b,l,rfl,i⟩:=p f;refine⟨_,rfl,?_,λj u m=>by rw[Z5];exact i j u m⟩;have o:0<c.length:=by rw[k];exact Nat.mul_pos f q
 exact World.block_lt_of_cell? w _ (i 0 _ (List.getElem?_eq_getElem o))
