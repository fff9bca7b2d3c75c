import Derived.WalkKit
import Derived.Below
import Derived.KernelRfl
import Derived.Lib.Hide
import Derived.Handy
import Derived.Deep.RegionWith
import Derived.RegionTactic
import Derived.ChangeAlike
import Derived.Deep.QuietTactic
import Derived.BigQuiet
import Derived.Deep.RegionHeld3
import Derived.Deep.DeepCutAuto
import Derived.Deep.CutBlock
import Derived.Deep.DeepFit
import Derived.Shelf.Abstract
import Derived.Deep.LoopGhost
set_option linter.unusedVariables false
namespace Go.Proofs.YthhjhlodgfdlgaaDoor
open Go Go.RowKit

/-- A fact that the walk does not look into. -/
structure Asd (p : Prop) : Prop where mk :: (out : p)

/-- How values of a Go type lie in cells. -/
class Enc (α : Type) where
  sz : Nat
  enc : α → List Value
  len : ∀ a, (enc a).length = sz

/-- A row of values lies at an address. -/
structure RowAt {α : Type} [Enc α] (w : World) (ad : Option Addr) (xs : List α) : Prop where
  big : xs.length ≤ 9223372036854775807
  at_ : 0 < xs.length → ∃ b off, ad = some ⟨b, off, none⟩ ∧ b < w.heap.size ∧ ∀ j, (hj : j < xs.length) → ∀ i v, (Enc.enc xs[j])[i]? = some v → w.cell? ⟨b, off + j * Enc.sz α + i, none⟩ = some v

theorem RowAt.low {α : Type} [Enc α] {w w' : World} {ad : Option Addr} {xs : List α} (h : RowAt w ad xs) (hb : Below w.heap.size w w') : RowAt w' ad xs := by
  refine ⟨h.big, fun hp => ?_⟩
  obtain ⟨b, off, e, hlt, hc⟩ := h.at_ hp
  exact ⟨b, off, e, Nat.lt_of_lt_of_le hlt hb.size, fun j hj i v hv => (hb.cell (p := ⟨b, _, none⟩) hlt).trans (hc j hj i v hv)⟩

instance : Enc ByteArray := ⟨1, fun s => [.string s], fun _ => rfl⟩
instance : Enc Int := ⟨1, fun n => [.int .i64 n], fun _ => rfl⟩
instance : Enc UInt8 := ⟨1, fun n => [.int .u8 n.toNat], fun _ => rfl⟩

/-- A cell's value: null, a number, a text. -/
structure Ce where
  nl : Bool
  i : Int
  s : ByteArray
def encCe (c : Ce) : List Value := [.bool c.nl, .int .i64 c.i, .string c.s]
instance : Enc Ce := ⟨3, encCe, fun _ => rfl⟩
def Ce.v (c : Ce) : Value := .agg (encCe c).toArray

/-- A predicate; its kids' slice with its address and capacity. -/
inductive Pr where
  | mk (op : Int) (col : ByteArray) (cmp : Int) (val : Ce) (kind : Int) (pat : ByteArray) (ka : Option Addr) (kc : Nat) (kids : List Pr)
def Pr.op : Pr → Int | .mk op .. => op
def Pr.col : Pr → ByteArray | .mk _ col .. => col
def Pr.cmp : Pr → Int | .mk _ _ cmp .. => cmp
def Pr.val : Pr → Ce | .mk _ _ _ val .. => val
def Pr.kind : Pr → Int | .mk _ _ _ _ kind .. => kind
def Pr.pat : Pr → ByteArray | .mk _ _ _ _ _ pat .. => pat
def Pr.ka : Pr → Option Addr | .mk _ _ _ _ _ _ ka .. => ka
def Pr.kc : Pr → Nat | .mk _ _ _ _ _ _ _ kc _ => kc
def Pr.kids : Pr → List Pr | .mk _ _ _ _ _ _ _ _ kids => kids
def encPr (p : Pr) : List Value := [.int .i64 p.op, .string p.col, .int .i64 p.cmp, .bool p.val.nl, .int .i64 p.val.i, .string p.val.s, .int .i64 p.kind, .string p.pat, .slice p.ka p.kids.length p.kc]
instance : Enc Pr := ⟨9, encPr, fun _ => rfl⟩
def Pr.v (p : Pr) : Value := .agg (encPr p).toArray

def i64 (n : Int) : Prop := -9223372036854775808 ≤ n ∧ n ≤ 9223372036854775807
/-- A predicate's own fields are of their kinds. -/
structure Fine (p : Pr) : Prop where
  op : i64 p.op
  cmp : i64 p.cmp
  kind : i64 p.kind
  vi : i64 p.val.i
  col : p.col.size ≤ 9223372036854775807
  vs : p.val.s.size ≤ 9223372036854775807
  pat : p.pat.size ≤ 9223372036854775807
inductive InPr (w : World) : Pr → Prop
  | mk (p : Pr) (fine : Fine p) (row : RowAt w p.ka p.kids) (all : ∀ k, k ∈ p.kids → InPr w k) : InPr w p
theorem InPr.fine {w : World} {p : Pr} (h : InPr w p) : Fine p := by cases h; assumption
theorem InPr.row {w : World} {p : Pr} (h : InPr w p) : RowAt w p.ka p.kids := by cases h; assumption
theorem InPr.all {w : World} {p : Pr} (h : InPr w p) : ∀ k, k ∈ p.kids → InPr w k := by cases h; assumption
theorem InPr.low {w w' : World} {p : Pr} (h : InPr w p) (hb : Below w.heap.size w w') : InPr w' p := by
  induction h with
  | mk p fine row all ih => exact ⟨p, fine, row.low hb, fun k hk => ih k hk⟩

theorem prCells {B : Nat} {w0 wr : World} {b o : Nat} {y : Pr} (hb : Below B w0 wr) (hlt : b < B) (h : ∀ i v, (Enc.enc y)[i]? = some v → w0.cell? ⟨b, o + i, none⟩ = some v) :
    wr.cell? ⟨b, o, none⟩ = some (.int .i64 y.op) ∧ wr.cell? ⟨b, o + 1, none⟩ = some (.string y.col) ∧ wr.cell? ⟨b, o + 2, none⟩ = some (.int .i64 y.cmp) ∧ wr.cell? ⟨b, o + 3, none⟩ = some (.bool y.val.nl) ∧
    wr.cell? ⟨b, o + 4, none⟩ = some (.int .i64 y.val.i) ∧ wr.cell? ⟨b, o + 5, none⟩ = some (.string y.val.s) ∧ wr.cell? ⟨b, o + 6, none⟩ = some (.int .i64 y.kind) ∧ wr.cell? ⟨b, o + 7, none⟩ = some (.string y.pat) ∧
    wr.cell? ⟨b, o + 8, none⟩ = some (.slice y.ka y.kids.length y.kc) := by
  have g : ∀ i v, (Enc.enc y)[i]? = some v → wr.cell? ⟨b, o + i, none⟩ = some v := fun i v hv => (hb.cell (p := ⟨b, _, none⟩) hlt).trans (h i v hv)
  exact ⟨g 0 _ rfl, g 1 _ rfl, g 2 _ rfl, g 3 _ rfl, g 4 _ rfl, g 5 _ rfl, g 6 _ rfl, g 7 _ rfl, g 8 _ rfl⟩

theorem bcell {B : Nat} {W w1 : World} (hb : Below B W w1) : (∀ b o, b < B → w1.cell? ⟨b, o, none⟩ = W.cell? ⟨b, o, none⟩) ∧ (∀ b o, b < B → w1.frozen? ⟨b, o, none⟩ = W.frozen? ⟨b, o, none⟩) :=
  ⟨fun b o h => hb.cell (p := ⟨b, o, none⟩) h, fun b o h => hb.frozen (p := ⟨b, o, none⟩) h⟩

theorem bnext {a b c : World} (h : Below a.heap.size a b) (k : Below b.heap.size b c) : Below a.heap.size a c := h.trans (k.mono h.size)
theorem bundrew {B : Nat} {a b : World} (h : Below B a.drew b) : Below B a b := (Below.refl _ _).drew.trans h

theorem alloc_last (W : World) (o : Obj) : (W.alloc o).heap[W.heap.size]? = some o := by show (W.heap.push o)[W.heap.size]? = _; simp
theorem alloc_last2 (W : World) (o o' : Obj) : ((W.alloc o).alloc o').heap[W.heap.size + 1]? = some o' := by
  have := alloc_last (W.alloc o) o'
  rwa [World.size_alloc] at this

/-- From W to W' only blocks of L have turned; L' holds blocks of L and new ones. -/
structure Stp (L L' : List Nat) (W W' : World) : Prop where
  os : W'.os = W.os
  tape : W'.tape = W.tape
  output : W'.output = W.output
  size : W.heap.size ≤ W'.heap.size
  block : ∀ k, k < W.heap.size → k ∉ L → W'.heap[k]? = W.heap[k]?
  new : ∀ k, k ∈ L' → k ∈ L ∨ W.heap.size ≤ k
theorem Stp.refl (L : List Nat) (W : World) : Stp L L W W := ⟨rfl, rfl, rfl, Nat.le_refl _, fun _ _ _ => rfl, fun _ h => .inl h⟩
theorem Stp.trans {L L' L'' : List Nat} {a b c : World} (h : Stp L L' a b) (k : Stp L' L'' b c) : Stp L L'' a c :=
  ⟨k.os.trans h.os, k.tape.trans h.tape, k.output.trans h.output, Nat.le_trans h.size k.size,
    fun i hi hn => (k.block i (Nat.lt_of_lt_of_le hi h.size) (fun hm => by rcases h.new i hm with h1 | h1; exact hn h1; omega)).trans (h.block i hi hn),
    fun i hi => by
      rcases k.new i hi with h1 | h1
      · exact h.new i h1
      · exact .inr (Nat.le_trans h.size h1)⟩
theorem Stp.of_below {L : List Nat} {a b : World} (h : Below a.heap.size a b) : Stp L L a b := ⟨h.os, h.tape, h.output, h.size, fun k hk _ => h.block k hk, fun _ h => .inl h⟩
theorem Stp.below {L L' : List Nat} {a b : World} (h : Stp L L' a b) {B : Nat} (hB : B ≤ a.heap.size) (hL : ∀ k, k ∈ L → B ≤ k) : Below B a b :=
  ⟨h.os, h.tape, h.output, h.size, fun k hk => h.block k (by omega) (fun hm => by have := hL k hm; omega)⟩
theorem Stp.cell {L L' : List Nat} {a b : World} (h : Stp L L' a b) {g : Nat} (hg : g < a.heap.size) (hn : g ∉ L) : (∀ x, b.cell? ⟨g, x, none⟩ = a.cell? ⟨g, x, none⟩) ∧ (∀ x, b.frozen? ⟨g, x, none⟩ = a.frozen? ⟨g, x, none⟩) :=
  ⟨fun _ => World.cell?_of_block (w := a) (h.block g hg hn), fun _ => World.frozen?_of_block (w := a) (h.block g hg hn)⟩
theorem Stp.alloc {L L' : List Nat} {a b : World} (h : Stp L L' a b) (o : Obj) : Stp L L' a (b.alloc o) :=
  h.trans (.of_below ((Below.refl _ b).alloc (Nat.le_refl _) o))
theorem Stp.lows {L L' : List Nat} {a b : World} (h : Stp L L' a b) {B : Nat} (hB : B ≤ a.heap.size) (hL : ∀ k, k ∈ L → B ≤ k) : ∀ k, k ∈ L' → B ≤ k :=
  fun k hk => by rcases h.new k hk with h1 | h1; exact hL k h1; omega
/-- A state that lies in blocks of L. -/
structure Held {σ : Type} (J : σ → List Nat → World → Prop) : Prop where
  keep : ∀ s L W W', J s L W → (∀ k, k ∈ L → W'.heap[k]? = W.heap[k]?) → W.heap.size ≤ W'.heap.size → J s L W'
  lt : ∀ s L W, J s L W → ∀ k, k ∈ L → k < W.heap.size
theorem Held.low {σ : Type} {J : σ → List Nat → World → Prop} (h : Held J) {s : σ} {L : List Nat} {W W' : World} (hs : J s L W) (hb : Below W.heap.size W W') : J s L W' :=
  h.keep s L W W' hs (fun k hk => hb.block k (h.lt s L W hs k hk)) hb.size
theorem Held.alloc {σ : Type} {J : σ → List Nat → World → Prop} (h : Held J) {s : σ} {L : List Nat} {W : World} (hs : J s L W) (o : Obj) : J s L (W.alloc o) :=
  h.low hs ((Below.refl _ W).alloc (Nat.le_refl _) o)
theorem Held.notin {σ : Type} {J : σ → List Nat → World → Prop} (h : Held J) {s : σ} {L : List Nat} {W : World} (hs : J s L W) : W.heap.size ∉ L :=
  fun hm => by have := h.lt s L W hs _ hm; omega
end Go.Proofs.YthhjhlodgfdlgaaDoor
