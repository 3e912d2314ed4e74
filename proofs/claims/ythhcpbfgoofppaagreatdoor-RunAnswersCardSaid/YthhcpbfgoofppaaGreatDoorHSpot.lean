import Derived.Test.YthhcpbfgoofppaaGreatDoorGRex
import Derived.MapKept
import Derived.Maps.RangeWalk
set_option linter.unusedVariables false
set_option linter.unusedSimpArgs false
open Wf
namespace Go.Proofs.YthhcpbfgoofppaaGreatDoor
open Go.RowKit Wf
theorem d7{P:Program}{w:W_}{r:Nat}{c:Array MapEntry}{b:Nat}(h:w.heap[r]?=some (.map c b)):(getObj r).run P w=.ok (.map c b) w:=by
 simp[getObj,Sem.run,h]
def A0a(w:W_)(r:Nat)(c:Array MapEntry)(b:Nat):W_:={ w with heap:=w.heap.setIfInBounds r (.map c b) }
theorem A0b{P:Program}{w:W_}{r:Nat}{f d:Array MapEntry}{c b:Nat}(h:w.heap[r]?=some (.map f c)):(setObj r (.map d b)).run P w=.ok () (A0a w r d b):=by
 simp[setObj,Sem.run,h,A0a]
section
variable {α:Type}
def A6 [DecidableEq α]:List (α×Value)->α->Option V_
 | [],_=>none
 | p::r,a=>if a=p.1 then some p.2 else A6 r a
def j8 [DecidableEq α]:List (α×Value)->α->Value->List (α×Value)
 | [],a,v=>[(a,v)]
 | p::r,a,v=>if a=p.1 then (a,v)::r else p::j8 r a v
theorem A0D [DecidableEq α](l:List (α×Value))(a b:α)(v:V_):A6 (j8 l a v) b=if b=a then some v else A6 l b:=by
 induction l with
 | nil=>simp[j8,A6]
 | cons p r ih =>
   simp only[j8];by_cases e:a=p.1
   .rw[if_pos e]
    simp only[A6];by_cases e2:b=a
    .rw[if_pos e2,if_pos e2]
    .rw[if_neg e2,if_neg e2,if_neg (λh=>e2 (by rw[h,e]))]
   .rw[if_neg e]
    simp only[A6,ih];by_cases e2:b=p.1
    .rw[if_pos e2,if_pos e2]
     rw[if_neg (λh=>e (by rw[←h,e2]))]
    .rw[if_neg e2,if_neg e2]
theorem B7F [DecidableEq α]{l:List (α×Value)}{a:α}{v:V_}(h:A6 l a=some v):(a,v)∈l:=by
 induction l with
 | nil=>simp[A6] at h
 | cons p r ih =>
   simp only[A6] at h
   split at h
   .rename_i e;cases h;rw[e];simp
   .exact List.mem_cons_of_mem _ (ih h)
theorem B7T [DecidableEq α]{l:List (α×Value)}(b:(l.map (·.1)).Nodup){a:α}{v:V_}(h:(a,v)∈l):A6 l a=some v:=by
 induction l with
 | nil=>cases h
 | cons p r ih =>
   simp only[List.map_cons,List.nodup_cons] at b;simp only[A6];rcases List.mem_cons.1 h with e|h
   .rw[←e];simp
   .rw[if_neg (λe=>b.1 (by rw[←e];exact List.mem_map_of_mem (f:=(·.1)) h)),ih b.2 h]
theorem B61 [DecidableEq α]{l:List (α×Value)}{a x:α}{v:V_}:x∈(j8 l a v).map (·.1)↔x=a\/x∈l.map (·.1):=by
 induction l with
 | nil=>simp[j8]
 | cons q r ih =>
   simp only[j8]
   split
   .rename_i e;simp only[List.map_cons,List.mem_cons];rw[e];simp
   .simp only[List.map_cons,List.mem_cons,ih]
    constructor
    .rintro (h|h|h)
     .exact .inr (.inl h)
     .exact .inl h
     .exact .inr (.inr h)
    .rintro (h|h|h)
     .exact .inr (.inl h)
     .exact .inl h
     .exact .inr (.inr h)
theorem A6X [DecidableEq α]{l:List (α×Value)}(b:(l.map (·.1)).Nodup)(a:α)(v:V_):((j8 l a v).map (·.1)).Nodup:=by
 induction l with
 | nil=>simp[j8]
 | cons q r ih =>
   simp only[List.map_cons,List.nodup_cons] at b;simp only[j8]
   split
   .rename_i e;simp only[List.map_cons,List.nodup_cons];rw[e];exact b
   .rename_i e
    simp only[List.map_cons,List.nodup_cons];refine⟨λh=>?_,ih b.2⟩;rcases B61.1 h with h|h
    .exact e h.symm
    .exact b.1 h
theorem put_len [DecidableEq α](l:List (α×Value))(a:α)(v:V_):(j8 l a v).length=if A6 l a=none then l.length+1 else l.length:=by
 induction l with
 | nil=>simp[j8,A6]
 | cons q r ih =>
   simp only[j8,A6]
   split
   .simp
   .simp only[List.length_cons,ih];split <;> rfl
structure A6N [DecidableEq α] (P:Program) (kt:TypeId) (mk:α->Value):Prop where
 desc:∃d,P.underlying kt=some d/\∀a b,Instr.sameNow d (mk a) (mk b)=some (decide (a=b))
 chk:∀em w a,(Instr.checkKey em 10000 kt (mk a)).run P w=.ok () w
 bits:∀a,Instr.sameBits 10000 (mk a) (mk a)=true
def d9(mk:α->Value)(p:α×Value):V_×Value:=(mk p.1,p.2)
def Mp(w:W_)(r:Nat)(mk:α->Value)(l:List (α×Value)):Prop :=
 ∃c b,w.heap[r]?=some (.map c b)/\c.toList.map (λe=>(e.key,e.val))=l.map (d9 mk)/\(l.map (·.1)).Nodup/\(c.toList.map (·.born)).Nodup/\∀e∈c.toList,e.born<b
variable {P:Program} {kt:TypeId} {mk:α->Value} {w w':W_} {r:Nat} {l:List (α×Value)}
theorem Mp.lt(h:Mp w r mk l):r<w.heap.size:=by
 obtain⟨d,b,c,_⟩:=h;exact(Array.getElem?_eq_some_iff.1 c).1
theorem Mp.nodup(h:Mp w r mk l):(l.map (·.1)).Nodup:=by
 obtain⟨_,_,_,_,b,_⟩:=h;exact b
theorem Mp.kept{row:Option Nat}(h:Mp w r mk l)(f:w.grownBy w' row)(c:some r≠row):Mp w' r mk l:=by
 have hlt:=h.lt;obtain⟨i,b,g,d⟩:=h;exact⟨i,b,(f.block r hlt c).trans g,d⟩
theorem Mp.below(h:Mp w r mk l)(b:Below w.heap.size w w'):Mp w' r mk l:=h.kept (row:=none) ⟨b.os,b.tape,b.output,b.size,λi c _=>b.block i c⟩ (by simp)
theorem Mp.new(w:W_)(mk:α->Value):Mp (w.alloc (.map #[] 0)) w.heap.size mk [] :=
 ⟨#[],0,heap_alloc_new w _,by simp,by simp,by simp,by simp⟩
theorem A80 [DecidableEq α]{d:TypeDesc}(q:∀a b,Instr.sameNow d (mk a) (mk b)=some (decide (a=b)))(a:α):∀(c:List MapEntry)(l:List (α×Value)) (i:Nat),c.map (λe=>(e.key,e.val))=l.map (d9 mk) ->
 (A6 l a=none->Instr.findNow d (mk a) c i=some none) /\
 ∀v,A6 l a=some v->∃j e,c[j]?=some e/\e.key=mk a/\Instr.findNow d (mk a) c i=some (some (i+j,v)) /\
  ∀u,(c.modify j λe=>{ e with key:=mk a,val:=u }).map (λe=>(e.key,e.val))=(j8 l a u).map (d9 mk)/\(c.modify j λe=>{ e with key:=mk a,val:=u }).map (·.born)=c.map (·.born):=by
 intro c
 induction c with
 | nil =>
   intro l i h;cases l with
   | nil=>exact⟨λ_=>rfl,λv f=>by simp[A6] at f⟩
   | cons p r=>simp at h
 | cons e c ih =>
   intro l i h;cases l with
   | nil=>simp at h
   | cons p r =>
     simp only[List.map_cons,List.cons.injEq,d9,Prod.mk.injEq] at h;obtain⟨⟨k,g⟩,s⟩:=h;obtain⟨z,y⟩:=ih r (i+1) s;by_cases ea:a=p.1
     .constructor
      .intro n;simp[A6,ea] at n
      .intro v f
       simp[A6,ea] at f;refine⟨0,e,rfl,by rw[k,ea],?_,λu=>?_⟩
       .simp[Instr.findNow,k,q,ea,g,f]
       .simp[j8,ea,d9,s]
     .constructor
      .intro n
       simp[A6,ea] at n;simp[Instr.findNow,k,q,ea,z n]
      .intro v f
       simp[A6,ea] at f;obtain⟨j,G,D,C,B,A⟩:=y v f;refine⟨j+1,G,by simpa using D,C,?_,λu=>?_⟩
       .simp[Instr.findNow,k,q,ea,B];omega
       .obtain⟨F,E⟩:=A u
        simp[j8,ea,d9,k,g,F,E]
theorem Mp.find [DecidableEq α](K:A6N P kt mk){b:Array MapEntry}(k:b.toList.map (λe=>(e.key,e.val))=l.map (d9 mk))(a:α)(w:W_):
 (A6 l a=none/\(Instr.findKey kt (mk a) b.toList).run P w=.ok none w) \/
 ∃v j e,A6 l a=some v/\b.toList[j]?=some e/\e.key=mk a/\(Instr.findKey kt (mk a) b.toList).run P w=.ok (some (j,v)) w /\
  ∀u,(b.modify j λe=>{ e with key:=mk a,val:=u }).toList.map (λe=>(e.key,e.val))=(j8 l a u).map (d9 mk)/\(b.modify j λe=>{ e with key:=mk a,val:=u }).toList.map (·.born)=b.toList.map (·.born):=by
 obtain⟨d,c,n⟩:=K.desc;obtain⟨q,p⟩:=A80 n a b.toList l 0 k;cases hg:A6 l a with
 | none =>
   refine .inl ⟨rfl,?_⟩;unfold Instr.findKey;simp only[Sem.run_bind,run_underlying c,Result.andThen_ok,q hg,Sem.run_pure]
 | some v =>
   obtain⟨j,e,i,h,g,f⟩:=p v hg;refine .inr ⟨v,j,e,rfl,i,h,?_,λu=>by rw[Array.toList_modify];exact f u⟩;unfold Instr.findKey;simp only[Sem.run_bind,run_underlying c,Result.andThen_ok,g,Sem.run_pure,Nat.zero_add]
variable {t et:TypeId}
theorem Mp.look_some [DecidableEq α](h:Mp w r mk l)(K:A6N P kt mk)(f:P.underlying t=some (.map kt et)){a:α}{v:V_}(b:A6 l a=some v)(d:Bool):
 (Instr.lookup t (.map (some r)) (mk a) d).run P w=.ok (if d then .tuple #[v,.bool true] else v) w:=by
 obtain⟨k,c,i,g,_⟩:=h;rcases Mp.find K g a w with ⟨h1,h2⟩|⟨v',j,e,h1,h2,h3,h4,_⟩
 .rw[h1] at b;cases b
 .rw[h1] at b
  cases b;unfold Instr.lookup;simp only[Sem.run_bind,run_underlying f,Result.andThen_ok,d7 i,Sem.run_pure,K.chk,h4]
theorem Mp.look_none [DecidableEq α](h:Mp w r mk l)(K:A6N P kt mk)(g:P.underlying t=some (.map kt et)){a:α}{z:V_}(f:(zeroValue et).run P w=.ok z w)(d:A6 l a=none)(c:Bool):
 (Instr.lookup t (.map (some r)) (mk a) c).run P w=.ok (if c then .tuple #[z,.bool false] else z) w:=by
 obtain⟨n,b,k,i,_⟩:=h;rcases Mp.find K i a w with ⟨h1,h2⟩|⟨v',j,e,h1,h2,h3,h4,_⟩
 .unfold Instr.lookup
  simp only[Sem.run_bind,run_underlying g,Result.andThen_ok,d7 k,Sem.run_pure,K.chk,h2,f]
 .rw[h1] at d;cases d
theorem A1a(w:W_)(r:Nat)(d:Array MapEntry)(b:Nat):w.grownBy (A0a w r d b) (some r) :=
 ⟨rfl,rfl,rfl,by simp[A0a],λk _ c=>by
   show(w.heap.setIfInBounds r (.map d b))[k]?=_;rw[Array.getElem?_setIfInBounds,if_neg (λe=>c (by rw[e]))]⟩
theorem A33{w:W_}{r:Nat}(h:r<w.heap.size)(c:Array MapEntry)(b:Nat):(A0a w r c b).heap[r]?=some (.map c b):=by
 show(w.heap.setIfInBounds r (.map c b))[r]?=_;rw[Array.getElem?_setIfInBounds,if_pos rfl,if_pos h]
theorem Mp.update [DecidableEq α](h:Mp w r mk l)(K:A6N P kt mk)(s:P.underlying t=some (.map kt et))(a:α)(v:V_):
 ∃w',(Instr.mapUpdate t (.map (some r)) (mk a) v).run P w=.ok () w'/\Mp w' r mk (j8 l a v)/\w.grownBy w' (some r)/\w'.heap.size=w.heap.size:=by
 have hlt:=h.lt;obtain⟨n,b,k,C,A,g,d⟩:=h;rcases Mp.find K C a w with ⟨h1,h2⟩|⟨v',j,e,h1,h2,h3,h4,h5⟩
 .refine⟨A0a w r (n.push { key:=mk a,val:=v,born:=b }) (b+1),?_,⟨_,_,A33 hlt _ _,?_,A6X A a v,?_,?_⟩,A1a _ _ _ _,by simp[A0a]⟩
  .unfold Instr.mapUpdate
   simp only[Sem.run_bind,run_underlying s,Result.andThen_ok,d7 k,K.chk,h2];exact A0b k
  .have key:∀l:List (α×Value),A6 l a=none->j8 l a v=l++[(a,v)]:=by
    intro l
    induction l with
    | nil=>intro _;rfl
    | cons p r ih =>
      intro i;simp only[A6] at i
      split at i
      .cases i
      .rename_i e;simp[j8,e,ih i]
   rw[key l h1];simp[C,d9]
  .simp only[Array.toList_push,List.map_append,List.map_cons,List.map_nil]
   rw[List.nodup_append];refine⟨g,by simp,?_⟩;intro x c y q e;obtain⟨z,E,rfl⟩:=List.mem_map.1 c;have:=d z E;simp at q;omega
  .intro x c
   simp only[Array.toList_push,List.mem_append,List.mem_singleton] at c;rcases c with c|rfl
   .have:=d x c;omega
   .simp
 .obtain⟨G,D⟩:=h5 v
  have F:n[j]?=some e:=by simpa using h2
  refine⟨A0a w r (n.modify j λe=>{ e with key:=mk a,val:=v }) b,?_,⟨_,_,A33 hlt _ _,G,A6X A a v,by rw[D];exact g,?_⟩,A1a _ _ _ _,by simp[A0a]⟩
  .unfold Instr.mapUpdate
   simp only[Sem.run_bind,run_underlying s,Result.andThen_ok,d7 k,K.chk,h4,F,Option.map_some,Option.getD_some,h3,Instr.keyThatStays,K.bits,if_true,Sem.run_pure];exact A0b k
  .intro x c
   have B:x.born∈(n.modify j λe=>{ e with key:=mk a,val:=v }).toList.map (·.born):=List.mem_map_of_mem (f:=(·.born)) c;rw[D] at B;obtain⟨y,q,e⟩:=List.mem_map.1 B;have:=d y q;omega
theorem Mp.clear(h:Mp w r mk l)(f:P.underlying t=some (.map kt et)):
 ∃w',(∀c,(Builtin.clear_ #[t] c #[.map (some r)]).run P w=.ok (.tuple #[]) w')/\Mp w' r mk []/\w.grownBy w' (some r)/\w'.heap.size=w.heap.size:=by
 have hlt:=h.lt;obtain⟨n,b,d,k,j,g,i⟩:=h;refine⟨A0a w r #[] b,λc=>?_,⟨#[],b,A33 hlt _ _,by simp,by simp,by simp,by simp⟩,A1a _ _ _ _,by simp[A0a]⟩;simp[Builtin.clear_,Sem.run_bind,run_underlying f,Result.andThen_ok,d7 d,A0b d]
theorem Mp.len(h:Mp w r mk l)(d:P.underlying t=some (.map kt et))(c:TypeId):(Builtin.len_ #[t] c #[.map (some r)]).run P w=.ok (.int .i64 l.length) w:=by
 obtain⟨k,b,j,f,n,g,i⟩:=h;have e:k.size=l.length:=by have:=congrArg List.length f;simpa using this
 simp[Builtin.len_,Sem.run_bind,run_underlying d,Result.andThen_ok,d7 j,goInt,e]
end
theorem A43{P:Program}{kt:TypeId}(h:P.underlying kt=some .string):A6N P kt (λs:B_=>Value.string s) where
 desc:=⟨_,h,λa b=>by
  simp only[Instr.sameNow]
  congr 1
  rw[Bool.eq_iff_iff,MapKept.bytes_beq,decide_eq_true_eq]⟩
 chk em w a:=by
  rw[show(10000:Nat)=9999+1 from rfl,Instr.checkKey];simp only[Sem.run_bind,run_underlying h,Result.andThen_ok]
  rfl
 bits a:=by
  unfold Instr.sameBits;exact(MapKept.bytes_beq a a).2 rfl
theorem A9J{P:Program}{kt:TypeId}(h:P.underlying kt=some (.int .u8)):A6N P kt (λb:Nat=>Value.int .u8 b) where
 desc:=⟨_,h,λa b=>by
  simp only[Instr.sameNow,if_true];by_cases e:a=b
  .simp[e]
  .have:((a:Int)==(b:Int))=false:=by simp;omega
   simp[e,this]⟩
 chk em w a:=by
  rw[show(10000:Nat)=9999+1 from rfl,Instr.checkKey];simp only[Sem.run_bind,run_underlying h,Result.andThen_ok]
  rfl
 bits a:=by simp[Instr.sameBits]
def A1i(b:List Int):List V_:=b.map (Value.int .i64)
theorem A8q(b:List Int):(A1i b).length=b.length:=by simp[A1i]
theorem A8r{b:List Int}{k:Nat}{x:Int}(h:b[k]?=some x):(A1i b)[k]?=some (.int .i64 x):=by simp[A1i,h]
def A0X(b:List Nat):List Int:=b.map λ(n:Nat)=>(n:Int)
theorem A7V(b:List Nat):D0 b=A1i (A0X b):=by simp[D0,A1i,A0X]
theorem A95(b:List Nat):(A0X b).length=b.length:=by simp[A0X]
theorem A96{b:List Nat}{k:Nat}:(A0X b)[k]?=b[k]?.map λ(n:Nat)=>(n:Int):=by simp[A0X]
def RdI(w:W_)(v:V_)(b:List Int):Prop:=Rd1 w v (A1i b)
theorem RdI.open_{w:W_}{v:V_}{d:List Int}(h:RdI w v d):∃(A:Option Addr)(cap:Nat),v=.slice A d.length cap/\d.length<=cap/\cap<=9223372036854775807 /\
 (0<d.length->∃b c,A=some ⟨b,c,none⟩/\b<w.heap.size/\∀(w':W_),(∀o,w'.cell? ⟨b,o,none⟩=w.cell? ⟨b,o,none⟩)->∀k u,d[k]?=some u->w'.cell? ⟨b,c+k,none⟩=some (.int .i64 u)):=by
 obtain⟨A,cap,f,i,z,g⟩:=Rd1.open_ h;rw[A8q] at f i g;refine⟨A,cap,f,i,z,λp=>?_⟩;obtain⟨b,c,y,s,q⟩:=g p;exact⟨b,c,y,s,λw' j k u n=>q w' j k _ (A8r n)⟩
end Go.Proofs.YthhcpbfgoofppaaGreatDoor
namespace Go.Proofs.YthhcpbfgoofppaaGreatDoor
open Go.RowKit Wf
open Go.ChangeMaps (setBlock)
section
variable {α:Type} {P:Program} {kt et t:TypeId} {mk:α->Value} {w w':W_} {m r C9:Nat} {l:List (α×Value)} {left:α->Prop}
def Rg(w:W_)(m r:Nat)(mk:α->Value)(l:List (α×Value))(left:α->Prop)(C9:Nat):Prop :=
 ∃f d b c g,w.heap[m]?=some (.map f d)/\f.toList.map (λe=>(e.key,e.val))=l.map (d9 mk)/\(l.map (·.1)).Nodup/\(f.toList.map (·.born)).Nodup/\(∀e∈f.toList,e.born<b) /\
  w.heap[r]?=some (.mapIter (some m) b c g)/\b<=g/\b<=d/\(leftOf f c).size=C9 /\
  ∀(i:Nat)(e:MapEntry) (p:α×Value),f.toList[i]?=some e->l[i]?=some p->(left p.1↔c.contains e.born=false)
theorem Rg.left_eq(h:Rg w m r mk l left C9):w.rangeLeft m r=C9:=by
 obtain⟨j,c,b,d,k,i,_,_,_,_,f,_,_,g,_⟩:=h;simp only[World.rangeLeft,i,f];exact g
theorem Rg.lt(h:Rg w m r mk l left C9):r<w.heap.size/\m<w.heap.size:=by
 obtain⟨i,c,b,d,j,g,_,_,_,_,f,_⟩:=h;exact⟨(Array.getElem?_eq_some_iff.1 f).1,(Array.getElem?_eq_some_iff.1 g).1⟩
theorem Rg.kept{row:Option Nat}(h:Rg w m r mk l left C9)(g:w.grownBy w' row)(q:some m≠row)(f:some r≠row):Rg w' m r mk l left C9:=by
 obtain⟨z,y⟩:=h.lt;obtain⟨A,c,b,d,B,s,n,k,j,i,p,rest⟩:=h;exact⟨A,c,b,d,B,(g.block m y q).trans s,n,k,j,i,(g.block r z f).trans p,rest⟩
theorem Rg.below(h:Rg w m r mk l left C9)(b:Below w.heap.size w w'):Rg w' m r mk l left C9 :=
 h.kept (row:=none) ⟨b.os,b.tape,b.output,b.size,λi c _=>b.block i c⟩ (by simp) (by simp)
theorem Rg.iter(h:Rg w m r mk l left C9):∃b c f,w.heap[r]?=some (.mapIter (some m) b c f):=by
 obtain⟨q,d,b,c,f,p,n,k,j,i,g,rest⟩:=h;exact⟨b,c,f,g⟩
theorem B1Y{b:List MapEntry}{l:List (α×Value)}(h:b.map (λe=>(e.key,e.val))=l.map (d9 mk)){i:Nat}{e:MapEntry}(c:b[i]?=some e):∃p,l[i]?=some p/\e.key=mk p.1/\e.val=p.2:=by
 have:=congrArg (λx:List (Value×Value)=>x[i]?) h;simp only[List.getElem?_map,c,Option.map_some] at this;cases hl:l[i]? with
 | none=>rw[hl] at this;cases this
 | some p =>
   rw[hl] at this;simp only[Option.map_some,d9,Option.some.injEq,Prod.mk.injEq] at this;exact⟨p,rfl,this.1,this.2⟩
theorem B3N{c:List MapEntry}{l:List (α×Value)}(h:c.map (λe=>(e.key,e.val))=l.map (d9 mk)){i:Nat}{p:α×Value}(f:l[i]?=some p):∃e,c[i]?=some e/\e.key=mk p.1/\e.val=p.2:=by
 have b:c.length=l.length:=by have:=congrArg List.length h;simpa using this
 have g:i<c.length:=by rw[b];exact(List.getElem?_eq_some_iff.1 f).1
 obtain⟨q,d,k,j⟩:=B1Y h (List.getElem?_eq_getElem g);rw[f] at d;cases d;exact⟨_,List.getElem?_eq_getElem g,k,j⟩
theorem Mp.range(h:Mp w m mk l)(n:P.underlying t=some (.map kt et)):
 ∃w',(Instr.range t (.map (some m))).run P w=.ok (.pointer (some ⟨w.heap.size,0,none⟩)) w'/\Rg w' m w.heap.size mk l (λ_=>True) l.length/\Below w.heap.size w w'/\w'.heap.size=w.heap.size+1:=by
 have hlt:=h.lt;obtain⟨d,b,k,j,q,f,g⟩:=h;have c:d.size=l.length:=by have:=congrArg List.length j;simpa using this
 refine⟨_,run_range_map w t kt et m d b n k,⟨d,b,b,#[],b,((MapKept.heap_alloc w _).2 m hlt).trans k,j,q,f,g,(MapKept.heap_alloc w _).1,lr_ _,lr_ _,?_,?_⟩,ba_,by simp⟩
 .have e:leftOf d #[]=d:=by unfold leftOf;exact Array.filter_eq_self.2 (by simp)
  rw[e];exact c
 .intro i e p _ _
  simp
theorem B5q{c:List MapEntry}(f:(c.map (·.born)).Nodup){i j:Nat}{a b:MapEntry}(k:c[i]?=some a)(g:c[j]?=some b)(h:a.born=b.born):i=j:=by
 have d:(c.map (·.born))[i]?=some a.born:=by rw[List.getElem?_map,k];rfl
 have n:(c.map (·.born))[j]?=some a.born:=by rw[List.getElem?_map,g,h];rfl
 exact(List.getElem?_inj (List.getElem?_eq_some_iff.1 d).1 f).1 (d.trans n.symm)
theorem Rg.next(h:Rg w m r mk l left C9)(T:TypeId):
 (C9=0/\(∀p∈l,¬left p.1)/\(Instr.next (.pointer (some ⟨r,0,none⟩)) false T).run P w=.ok (.tuple #[.bool false]) w) \/
 ∃p w' y,p∈l/\left p.1/\(Instr.next (.pointer (some ⟨r,0,none⟩)) false T).run P w=.ok (.tuple #[.bool true,mk p.1,p.2]) w' /\
  Rg w' m r mk l (λa=>left a/\a≠p.1) y/\y<C9/\w.grownBy w' (some r)/\w'.heap.size=w.heap.size/\(Instr.entry (.pointer (some ⟨r,0,none⟩))).run P w'=.ok (.tuple #[mk p.1,p.2]) w':=by
 obtain⟨f,c,d,b,c0,hb,he,hn,C,q,O,V,F,rfl,hl⟩:=h
 have Z:r≠m:=by
  rintro rfl;rw[hb] at O;cases O
 rcases run_next_at (P:=P) w T r m d c0 b f c O hb q V with ⟨h0,hrun⟩|⟨e,J,w1,hal,hrun⟩
 .refine .inl ⟨h0,λp E=>?_,hrun⟩
  obtain⟨i,z⟩:=List.mem_iff_getElem?.1 E;obtain⟨e,L,_⟩:=B3N he z;rw[hl i e p L z];have A:e∈f:=by have:=List.mem_of_getElem? L;simpa using this
  intro hc;have:e∈leftOf f b:=by unfold leftOf;rw[Array.mem_filter];exact⟨A,by rw[hc];rfl⟩
  rw[Array.eq_empty_of_size_eq_zero h0] at this;simp at this
 .right
  have hel':e∈leftOf f b:=by simpa using J
  have g:=hel';unfold leftOf at g;rw[Array.mem_filter] at g;obtain⟨A,Y⟩:=g;have s:e∈f.toList:=by simpa using A
  obtain⟨i,z⟩:=List.mem_iff_getElem?.1 s;obtain⟨p,E,hk,hv⟩:=B1Y he z;have X:r<w1.heap.size:=by rcases hal with rfl | rfl <;> exact(Array.getElem?_eq_some_iff.1 O).1
  have S:w1.heap=w.heap:=by rcases hal with rfl | rfl <;> rfl
  have N:(setBlock w1 r (.mapIter (some m) d (b.push e.born) c)).heap[m]?=some (.map f c):=by
   show(w1.heap.setIfInBounds r _)[m]?=_;rw[Array.getElem?_setIfInBounds,if_neg Z,S,hb]
  have M:(setBlock w1 r (.mapIter (some m) d (b.push e.born) c)).heap[r]?=some (.mapIter (some m) d (b.push e.born) c):=by
   show(w1.heap.setIfInBounds r _)[r]?=_;rw[Array.getElem?_setIfInBounds,if_pos rfl,if_pos X]
  refine⟨p,_,(leftOf f (b.push e.born)).size,List.mem_of_getElem? E,?_,by rw[hk,hv] at hrun;exact hrun,⟨f,c,d,b.push e.born,c,N,he,hn,C,q,M,F,F,rfl,?_⟩,?_,?_,?_,?_⟩
  .rw[hl i e p z E]
   simpa using Y
  .intro j e' D R n
   show(left D.1/\D.1≠p.1)↔_;rw[hl j e' D R n]
   have H:D.1≠p.1↔e'.born≠e.born:=by
    constructor
    .intro h1 h2
     obtain rfl:=B5q C R z h2;rw[E] at n;cases n;exact h1 rfl
    .intro h1 h2
     have x1:(l.map (·.1))[j]?=some D.1:=by rw[List.getElem?_map,n];rfl
     have x2:(l.map (·.1))[i]?=some D.1:=by rw[List.getElem?_map,E,h2];rfl
     obtain rfl:=(List.getElem?_inj (List.getElem?_eq_some_iff.1 x1).1 hn).1 (x1.trans x2.symm);rw[z] at R;cases R;exact h1 rfl
   rw[H];simp
  .unfold leftOf
   have hs:(f.filter λx=>!(b.push e.born).contains x.born)=(f.filter λx=>!b.contains x.born).filter λx=>!(x.born==e.born):=by
    rw[Array.filter_filter]
    congr 1
    funext x
    rw[Array.contains_push,Bool.not_or,Bool.and_comm]
   rw[hs];have G:e∈(f.filter λx=>!b.contains x.born).toList:=by simpa[leftOf] using J
   generalize (f.filter λx=>!b.contains x.born)=B at G ⊢;rw[Array.size_filter_lt_size_iff_exists];exact⟨e,by simpa using G,by simp⟩
  .refine⟨?_,?_,?_,?_,λk hk aa=>?_⟩
   .rcases hal with rfl|rfl <;> rfl
   .rcases hal with rfl|rfl <;> rfl
   .rcases hal with rfl|rfl <;> rfl
   .show w.heap.size<=(w1.heap.setIfInBounds r _).size
    rw[S];simp
   .show(w1.heap.setIfInBounds r _)[k]?=_
    rw[Array.getElem?_setIfInBounds,if_neg (λe=>aa (by rw[e])),S]
  .show(w1.heap.setIfInBounds r _).size=_
   rw[S];simp
  .have:=run_entry_at (P:=P) _ r m d b f c e M N s C
   rw[hk,hv] at this;exact this
end
section
variable {α:Type} {P:Program} (w:W_) {ops:Array Oper} {rest:List Oper} {o:Oper} {a:Act} {Q:Exit->Act->World->Prop}
theorem A4d(n:o.guard=none)(x:Operand)(t:TypeId)(c:o.op=Op.range t x)(k e:TypeId)(j:P.underlying t=some (.map k e))(mk:α->Value)(l:List (α×Value))(m:Nat)
 (hm:a.eval x=.map (some m)) (h:Mp w m mk l)
 (hK:∀w',Rg w' m w.heap.size mk l (λ_=>True) l.length->Below w.heap.size w w'->w'.heap.size=w.heap.size+1->wpList P ops Q rest (a.put o.dst (.pointer (some ⟨w.heap.size,0,none⟩))) w'):
 wpList P ops Q (o::rest) a w:=by
 refine wpList_plain n λp d=>?_
 obtain⟨w',b,i,g,f⟩:=h.range j;unfold Oper.wp;simp[execOp,c,hm,b,Result.andThen];exact d _ _ (hK w' i g f)
theorem A4u(f:o.guard=none)(it:Operand)(c:o.op=Op.next it false)(mk:α->Value)(l:List (α×Value))(m r C9:Nat)(left:α->Prop)
 (hit:a.eval it=.pointer (some ⟨r,0,none⟩)) (h:Rg w m r mk l left C9)
 (hDone:C9=0->(∀p∈l,¬left p.1)->wpList P ops Q rest (a.put o.dst (.tuple #[.bool false])) w)
 (hMore:∀(p:α×Value)(w':W_) (b:Nat),p∈l->left p.1->Rg w' m r mk l (λa=>left a/\a≠p.1) b->b<C9->w.grownBy w' (some r)->w'.heap.size=w.heap.size ->
   (Instr.entry (.pointer (some ⟨r,0,none⟩))).run P w'=.ok (.tuple #[mk p.1,p.2]) w'->wpList P ops Q rest (a.put o.dst (.tuple #[.bool true,mk p.1,p.2])) w'):
 wpList P ops Q (o::rest) a w:=by
 refine wpList_plain f λg d=>?_
 unfold Oper.wp;rcases h.next (P:=P) o.type with ⟨h0,hl,hrun⟩|⟨p,w',b,hp,hlp,hrun,hrg,hlt,hgr,hsz,hen⟩
 .simp[execOp,c,hit,hrun,Result.andThen]
  exact d _ _ (hDone h0 hl)
 .simp[execOp,c,hit,hrun,Result.andThen]
  exact d _ _ (hMore p w' b hp hlp hrg hlt hgr hsz hen)
