/-
Proved: RunAnswers is true for every text. No condition.
-/
import Derived.Test.YthhcpbfgoofppaaGreatDoorGLd
import Derived.Test.YthhcpbfgoofppaaGreatDoorGRd
import Derived.Test.YthhcpbfgoofppaaGreatDoorTie
import Derived.Test.YthhcpbfgoofppaaGreatDoorCards
set_option linter.unusedVariables false
open Wf
set_option maxRecDepth 100000
set_option maxHeartbeats 4000000
open Go.Lib (hid)
open Go.Proofs.Tryz hiding parts
namespace Go.Proofs.YthhcpbfgoofppaaGreatDoor.runAnswers
open Go.RowKit Wf
open law (own B19)
open setW (LibE B8R B6H B1z)
theorem C0V(s:B_)(w:W_)(k:s.size<=maxLen)(h:LibE w.heap.size w):
 Calls prog 3 #[.string s] w (B19 w):=by
 have hs':s.size<=9223372036854775807:=by unfold maxLen at k;omega
 have n:=hid (B8R s hs' w h);have i:=hid λW=>B6H s hs' W
 unfold B1z at i;unfold B19;clear h;go_enter func3,ntmps3;go_wp2_with fail;refine n.out.mono ?_;rintro e j⟨t,rfl,g,b⟩;have m:=hid g;have c:=hid b;clear g b;go_wp2_with fail;refine(i.out j).mono ?_;rintro e o⟨u,rfl,d,a⟩;have f:=hid (c.out.trans (a.mono c.out.size))
 have l:(t.toList==u.toList)=true:=by
  rw[←m.out] at d;have:u=t:=ByteArray.ext (Array.toList_inj.1 d);rw[this];exact beq_self_eq_true _
 clear d a;go_wp2_with fail;go_ret;exact⟨by first | rfl | (simp only[l]),f.out⟩
end Go.Proofs.YthhcpbfgoofppaaGreatDoor.runAnswers
namespace Go.Proofs.YthhcpbfgoofppaaGreatDoor.runAnswers
open Go.ChangeShapes Go.WideShapes Go.ChangeAt Go.RowKit Wf
open Go.ChangeMaps (open_string shut_string)
open law (own B19)
open lawR (laidL A1K A06 A4Y)
theorem B8x(os:Os)(a:os.Started)(H:Type)(enc:TypeId×Value->H):
 ReturnsInHanded {} Tryz.checked os 3 .any (λw args=>(Rows.runAnswersSpec.pre enc prog Tryz.f3 [] false w args/\laidMetH prog laidL w)/\sizedMet enc prog Tryz.f3 (OpenSpec.ofChange Rows.runAnswersSpec) false w args)
  (Rows.runAnswersSpec.post enc prog Tryz.f3 false true false false):=by
 refine returnsInHanded_of_change_and (C:=Tryz.checked) (X:=λw _=>laidMetH prog laidL w) (λ_ _ _ F h=>h.of_heap F) own a (by kernel_rfl) func3
  (ChangeSpec.witness_at (enc:=enc) (C:=Tryz.checked) (os:=os) (X:=λw _=>laidMetH prog laidL w) false (A1K os) #[.string ByteArray.empty] 8 rfl (by kernel_rfl) (by kernel_rfl) (by kernel_rfl) (by kernel_rfl) (by kernel_rfl) (A06 os _)) ?_
 intro W base args O Q g b l k _ L _;have c:∀(j:Nat) t v,Tryz.f3.params[j]?=some t->args[j]?=some v->Value.okWide prog W .any base t v:=b;have hW':=l;obtain⟨p,q,f,J,rfl,G,D⟩:=l;have n:DataW.TrodAll enc prog W 0 (λ_=>true) true Tryz.f3.params.toList args.toList O p:=f;rw[params3] at n c;obtain⟨v0,r,R,N,z,P,i,rfl,rfl,o,y⟩:=trodAll_cons n;obtain⟨rfl,rfl,rfl⟩:=trodAll_nil y;obtain rfl:args=#[v0]:=by cases args;simp_all
 obtain⟨rfl,rfl⟩:=trodVars_none J;have M:=A4Y L;have B:=o;have A:∀x∈z,x.block<W.heap.size:=by obtain⟨m,E⟩:=B;exact DataW.trod_lt m _ _ _ E
 obtain⟨s,rfl,rfl,rfl,d⟩:=open_string underlying9 (c 0 9 v0 rfl rfl) o;clear f b;refine(C0V s W d M).mono λe W' ⟨he,bel⟩=>?_
 subst he;exact⟨_,rfl,_,_,_,[],_,[],hW',trodAll_mk1 (shut_bool underlying4 _),(trodAll_cons_mk (shut_string underlying9 d) trodAll_mk0),rfl,bel.frame _,λh=>by cases h⟩
theorem C0W:Rows.runAnswersRow.holds Tryz.pinned (OpenSpec.ofChange Rows.runAnswersSpec) :=
 OpenClaim.holds_of_wide 3 Tryz.f3 rfl rfl rfl rfl rfl rfl rfl ⟨rfl,rfl,rfl,rfl,rfl⟩ rfl rfl rfl rfl rfl (by kernel_rfl) func3 (by kernel_rfl)
  (of_decide_eq_true (by kernel_rfl)) (by unfold Func.isWrapper;first | (rw[if_pos (by decide +kernel)];kernel_rfl) | (rw[if_neg (by decide +kernel)];exact⟨rfl,rfl⟩))
  (λos a H enc _=>B8x os a H enc)
theorem proved:Rows.RunAnswersCardSaid :=
 Claim7.holds_tied_plain_at .later [] [.data,.data,.data,.handle,.sentinel,.sentinel] true (true,"7f1e144ab7e1dbf0d32ee5c97695448cdbebd3bb782fca2090200e67b8b41330") true
  C0W (λ_ h=>by cases h) (by kernel_rfl) (λ_ h=>by cases h) runAnswers_row_tie rfl ⟨rfl,rfl⟩ (by kernel_rfl) rfl
  (λf d c b=>by
    obtain rfl:f=3:=Option.some.inj ((show prog.funcNamed "winnowfan/winnowfanlaw3.RunAnswers"=some 3 by kernel_rfl).symm.trans c) |>.symm
    obtain rfl:d=Tryz.f3:=(Option.some.inj (func3.symm.trans b)).symm
    exact⟨by kernel_rfl,λj t a=>by
     rw[params3] at a
     match j,a with
     | 0,a =>
       have e:t=9:=by simpa using a.symm
       subst e;exact(show prog.wantsStandIn 9=false by kernel_rfl)
     | j+1,a=>simp at a⟩)
  (by kernel_rfl)
