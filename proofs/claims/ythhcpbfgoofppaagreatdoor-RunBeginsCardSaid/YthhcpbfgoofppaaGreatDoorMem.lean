/-
  Words for memory: slices that read as lists of cells; what is kept over new blocks.
-/
import Derived.Test.YthhcpbfgoofppaaGreatDoorGPl
import Derived.Below
import Derived.Laws.OwnMore
import Derived.Deep.AppendLies
import Derived.Deep.Draws
import Derived.Laws.Rows
import Derived.Laws.MakeOwn
import Derived.Lib.Hide
set_option linter.unusedVariables false
set_option linter.unusedSimpArgs false
namespace Wf
open Go Go.RowKit
def Rd (w : World) (size : Nat) (v : Value) (xs : List Value) : Prop :=
 ∃ (A : Option Addr) (n cap : Nat),v = .slice A n cap ∧ n ≤ cap ∧ cap ≤ 9223372036854775807 ∧ xs.length = n * size ∧
  (0 < n → ∃ b off,A = some ⟨b,off,none⟩ ∧ ∀ j u,xs[j]? = some u → w.cell? ⟨b,off + j,none⟩ = some u)
theorem Rd.keep {w w' : World} {size : Nat} {v : Value} {xs : List Value} (h : Rd w size v xs)
 (hk : ∀ b o,b < w.heap.size → w'.cell? ⟨b,o,none⟩ = w.cell? ⟨b,o,none⟩) : Rd w' size v xs:=by
 obtain ⟨A,n,cap,hv,h1,h2,h3,h4⟩:=h
 refine ⟨A,n,cap,hv,h1,h2,h3,fun hn => ?_⟩
 obtain ⟨b,off,ha,hc⟩:=h4 hn
 refine ⟨b,off,ha,fun j u hu => ?_⟩
 have:=hc j u hu
 rw [hk _ _ (World.block_lt_of_cell? w _ this)]
 exact this
theorem Rd.below {w w' : World} {size : Nat} {v : Value} {xs : List Value} (h : Rd w size v xs) (hb : Below w.heap.size w w') : Rd w' size v xs :=
 h.keep fun b o hlt => hb.cell (p:=⟨b,o,none⟩) hlt
theorem Rd.nil (w : World) (size : Nat) : Rd w size (.slice none 0 0) []:=⟨none,0,0,rfl,by omega,by omega,by simp,fun h => by omega⟩
def ndCells (n : Nd) : List Value:=[.int .i64 n.op,.int .u64 (n.cls.1 : Int),.int .u64 (n.cls.2.1 : Int),.int .u64 (n.cls.2.2.1 : Int),.int .u64 (n.cls.2.2.2 : Int)]
theorem flatMap_len (l : List Nd) : (l.flatMap ndCells).length = l.length * 5:=by
 induction l with
 | nil => rfl
 | cons n r ih => simp [ndCells] at ih ⊢;omega
theorem flatMap_get (l : List Nd) : ∀ (k j : Nat) (n : Nd),l[k]? = some n → j < 5 → (l.flatMap ndCells)[k * 5 + j]? = (ndCells n)[j]?:=by
 induction l with
 | nil => intro k j n h;simp at h
 | cons m r ih =>
   intro k j n h hj
   rcases k with _ | k
   ·simp at h
    subst h
    simp only [List.flatMap_cons,Nat.zero_mul,Nat.zero_add]
    rw [List.getElem?_append_left (by simpa [ndCells] using hj)]
   ·simp only [List.flatMap_cons]
    rw [List.getElem?_append_right (by simp [ndCells];omega)]
    have e : (k + 1) * 5 + j - (ndCells m).length = k * 5 + j:=by simp [ndCells];omega
    rw [e]
    exact ih k j n (by simpa using h) hj
def RdN (w : World) (v : Value) (l : List Nd) : Prop:=Rd w 5 v (l.flatMap ndCells)
theorem RdN.open_ {w : World} {v : Value} {l : List Nd} (h : RdN w v l) : ∃ (A : Option Addr) (cap : Nat),v = .slice A l.length cap ∧ l.length ≤ cap ∧ cap ≤ 9223372036854775807 ∧
 (0 < l.length → ∃ b off,A = some ⟨b,off,none⟩ ∧ b < w.heap.size ∧ ∀ (w' : World),(∀ o,w'.cell? ⟨b,o,none⟩ = w.cell? ⟨b,o,none⟩) → ∀ k n,l[k]? = some n →
   w'.cell? ⟨b,off + k * 5,none⟩ = some (.int .i64 n.op) ∧ w'.cell? ⟨b,off + k * 5 + 1,none⟩ = some (.int .u64 (n.cls.1 : Int)) ∧ w'.cell? ⟨b,off + k * 5 + 2,none⟩ = some (.int .u64 (n.cls.2.1 : Int)) ∧
   w'.cell? ⟨b,off + k * 5 + 3,none⟩ = some (.int .u64 (n.cls.2.2.1 : Int)) ∧ w'.cell? ⟨b,off + k * 5 + 4,none⟩ = some (.int .u64 (n.cls.2.2.2 : Int))):=by
 obtain ⟨A,n,cap,rfl,h1,h2,h3,h4⟩:=h
 rw [flatMap_len] at h3
 obtain rfl : n = l.length:=by omega
 refine ⟨A,cap,rfl,h1,h2,fun hn => ?_⟩
 obtain ⟨b,off,rfl,hc⟩:=h4 hn
 have hget : ∀ k n,l[k]? = some n → ∀ j u,j < 5 → (ndCells n)[j]? = some u → w.cell? ⟨b,off + (k * 5 + j),none⟩ = some u:=by
  intro k n hk j u hj hu
  exact hc _ _ (by rw [flatMap_get l k j n hk hj];exact hu)
 have hlt : b < w.heap.size:=by
  have hl : l[0]? = some (l[0]'hn):=List.getElem?_eq_getElem hn
  exact World.block_lt_of_cell? w _ (hget 0 _ hl 0 _ (by omega) rfl)
 refine ⟨b,off,rfl,hlt,fun w' hw k n hk => ?_⟩
 simp only [hw]
 exact ⟨hget k n hk 0 _ (by omega) rfl,hget k n hk 1 _ (by omega) rfl,hget k n hk 2 _ (by omega) rfl,hget k n hk 3 _ (by omega) rfl,hget k n hk 4 _ (by omega) rfl⟩
def Rd1 (w : World) (v : Value) (xs : List Value) : Prop:=Rd w 1 v xs
theorem Rd1.open_ {w : World} {v : Value} {xs : List Value} (h : Rd1 w v xs) : ∃ (A : Option Addr) (cap : Nat),v = .slice A xs.length cap ∧ xs.length ≤ cap ∧ cap ≤ 9223372036854775807 ∧
 (0 < xs.length → ∃ b off,A = some ⟨b,off,none⟩ ∧ b < w.heap.size ∧ ∀ (w' : World),(∀ o,w'.cell? ⟨b,o,none⟩ = w.cell? ⟨b,o,none⟩) → ∀ k u,xs[k]? = some u → w'.cell? ⟨b,off + k,none⟩ = some u):=by
 obtain ⟨A,n,cap,rfl,h1,h2,h3,h4⟩:=h
 obtain rfl : n = xs.length:=by omega
 refine ⟨A,cap,rfl,h1,h2,fun hn => ?_⟩
 obtain ⟨b,off,rfl,hc⟩:=h4 hn
 have hl : xs[0]? = some (xs[0]'hn):=List.getElem?_eq_getElem hn
 exact ⟨b,off,rfl,World.block_lt_of_cell? w _ (hc 0 _ hl),fun w' hw k u hu => by rw [hw];exact hc k u hu⟩
theorem Rd.of_own {w : World} {base size n : Nat} {e : TypeId} {v : Value} {xs : List Value} (h : w.ownsRow base e size v n xs) : Rd w size v xs:=by
 obtain ⟨h1,h2⟩:=h
 rcases h2 with ⟨rfl,rfl⟩ | ⟨g,cap,cur,rfl,h3,h4,h5,h6,h7,h8⟩
 ·obtain rfl : xs = []:=List.eq_nil_of_length_eq_zero (by simpa using h1)
  exact Rd.nil w size
 ·refine ⟨_,n,cap,rfl,h5,by unfold maxLen at h6;omega,h1,fun hn => ⟨g,0,rfl,fun j u hu => ?_⟩⟩
  rw [Nat.zero_add,cell_of_row w g j cur e (0,0) h4]
  rw [← h8] at hu
  rw [List.getElem?_take] at hu
  split at hu
  ·simpa using hu
  ·cases hu
def Blk (w : World) (g : Nat) (t : TypeId) (cs : Array Value) : Prop:=w.heap[g]? = some (.cells cs t (0,0))
section
variable {w w' : World} {g : Nat} {t : TypeId} {cs : Array Value}
theorem Blk.lt (h : Blk w g t cs) : g < w.heap.size:=by
 rcases Nat.lt_or_ge g w.heap.size with hlt | hge
 ·exact hlt
 ·unfold Blk at h;rw [Array.getElem?_eq_none hge] at h;cases h
theorem Blk.cell (h : Blk w g t cs) (i : Nat) : w.cell? ⟨g,i,none⟩ = cs[i]?:=cell_of_row w g i cs t (0,0) h
theorem Blk.frozen (h : Blk w g t cs) (i : Nat) : w.frozen? ⟨g,i,none⟩ = false:=frozen_of_row w g i cs t h
theorem Blk.new (w : World) (t : TypeId) (cs : Array Value) : Blk (w.alloc (.cells cs t)) w.heap.size t cs:=heap_alloc_new w _
theorem Blk.alloc (h : Blk w g t cs) (o : Obj) : Blk (w.alloc o) g t cs:=(Below.heap_alloc w o g h.lt).trans h
theorem Blk.drew (h : Blk w g t cs) : Blk w.drew g t cs:=h
theorem Blk.set_ (h : Blk w g t cs) (i : Nat) (u : Value) : Blk (w.setCell ⟨g,i,none⟩ u) g t (cs.setIfInBounds i u):=by
 unfold Blk at h ⊢
 simp [World.setCell,Array.getElem?_modify,h]
theorem Blk.far (h : Blk w g t cs) {p : Addr} (hp : g ≠ p.block) (u : Value) : Blk (w.setCell p u) g t cs:=(Below.heap_setCell w p u g hp).trans h
theorem Blk.below {B : Nat} (h : Blk w g t cs) (hb : Below B w w') (hg : g < B) : Blk w' g t cs:=(hb.block g hg).trans h
theorem Blk.kept (h : Blk w g t cs) (hb : Below w.heap.size w w') : Blk w' g t cs:=h.below hb h.lt
end
def repA (n : Nat) (z : Value) : Array Value:=⟨List.replicate n z⟩
theorem repA_size (n : Nat) (z : Value) : (repA n z).size = n:=by simp [repA]
theorem repA_get (n : Nat) (z : Value) (i : Nat) (h : i < n) : (repA n z)[i]? = some z:=by simp [repA,h]
theorem run_mk {P : Program} (t e : TypeId) (i : TypeInfo) (z : Value) (ht : P.underlying t = some (.slice e)) (hi : P.info? e = some i) (hz : i.zero = some z) (hsz : i.size = 1) (h1 : z.cells = #[z]) (n : Nat) (hb : i.bytes * n ≤ 281474976710656) (h63 : n ≤ 9223372036854775807) (w : World) :
 (Instr.makeSlice t (.int .i64 (n : Int)) (.int .i64 (n : Int))).run P w = .ok (.slice (some ⟨w.heap.size,0,none⟩) n n) (w.alloc (.cells (repA n z) e)):=by
 have hb' : (i.bytes : Int) * (n : Int) ≤ 281474976710656:=by
  have h : ((i.bytes * n : Nat) : Int) ≤ 281474976710656:=by omega
  rwa [Int.natCast_mul] at h
 have hr:=run_make (P:=P) w t e i z ht hi hz .i64 .i64 n n (by omega) (by omega) hb' (by omega)
 simp only [Int.toNat_natCast,hsz,Nat.mul_one,h1] at hr
 rw [hr]
 congr 4
 apply Array.ext'
 rw [toList_madeCells_one]
 rfl
theorem ndCells_one (l : List Nd) : ∀ u ∈ l.flatMap ndCells,u.oneCell' = true:=by
 intro u hu
 rw [List.mem_flatMap] at hu
 obtain ⟨n,_,hn⟩:=hu
 simp [ndCells] at hn
 rcases hn with rfl | rfl | rfl | rfl | rfl <;> rfl
theorem add_mk (b off j : Nat) : (⟨b,off,none⟩ : Addr).add j = ⟨b,off + j,none⟩:=by
 unfold Addr.add
 split
 ·rename_i h;subst h;rfl
 ·rfl
theorem Rd.src {w : World} {size : Nat} {v : Value} {xs : List Value} (h : Rd w size v xs) (h0 : 0 < size) : ∃ (A : Option Addr) (n cap : Nat),v = .slice A n cap ∧ xs.length = n * size ∧ (0 < n → ∃ ad,A = some ad ∧ ad.block < w.heap.size ∧ ∀ (j : Nat) (u : Value),xs[j]? = some u → w.cell? (ad.add j) = some u):=by
 obtain ⟨A,n,cap,rfl,h1,h2,h3,h4⟩:=h
 refine ⟨A,n,cap,rfl,h3,fun hn => ?_⟩
 obtain ⟨b,off,rfl,hc⟩:=h4 hn
 refine ⟨_,rfl,?_,fun j u hu => by rw [add_mk];exact hc j u hu⟩
 have hl : 0 < xs.length:=by rw [h3];exact Nat.mul_pos hn h0
 exact World.block_lt_of_cell? w _ (hc 0 _ (List.getElem?_eq_getElem hl))
end Wf
