/- The walk over values: what each operation does to an abstract state, and the weakest condition of code over it. -/
import Derived.Test.YtedhhjmjlpnlpaaV1
namespace Go.Proofs.Ytedhhjmjlpnlpaa.VW
open Go Go.RowKit
set_option linter.unusedVariables false
set_option linter.unusedSimpArgs false

/-! types, as a table tells them -/
inductive Ty where
  | int (k : IntKind)
  | bool
  | slice (e : Nat)
  | struct (fs : List (Nat × Nat))
  | array (n e : Nat)
  | other
structure TI where
  ty : Ty
  size : Nat
  bytes : Nat
  zero : List AV
@[reducible] def Ty.isAgg : Ty → Bool
  | .struct _ => true
  | .array _ _ => true
  | _ => false

inductive Blk where
  | var (cs : List AV)
  | rows (st : Nat) (rs : List (List AV))
  | frz (rs : List (List AV))

structure St where
  T : Nat → AV
  H : Key → Option Blk
  γ : Key → Nat

structure Sg where
  τ : Nat → Option TI
  Γ : Nat → List AV → Option (Prop × AV × List Blk)
  eq : Nat → Option (List (Option IntKind))
  sp : Nat → Option (Nat → Array Oper → (St → Prop) → St → Prop)

def upd {α : Type} (T : Nat → α) (i : Nat) (v : α) (j : Nat) : α := if j = i then v else T j
def updK {α : Type} (T : Key → α) (i : Key) (v : α) (j : Key) : α := if j = i then v else T j
abbrev Wr := Key × Nat × Option Blk
def St.put (σ : St) (dst : Option Nat) (v : AV) : St := match dst with
  | some d => { σ with T := upd σ.T d v }
  | none => σ
def St.wr1 (σ : St) (x : Wr) : St := { σ with H := updK σ.H x.1 x.2.2, γ := updK σ.γ x.1 x.2.1 }
def St.wr (σ : St) : List Wr → St
  | [] => σ
  | x :: r => (σ.wr1 x).wr r

structure Out where
  pre : Prop
  v : AV
  ws : List Wr

def bad : Out := ⟨False, .dead, []⟩

structure SV where
  p : Prop
  v : AV
def strip (g : Bool) : AV → SV
  | .opt b v => ⟨g = true → b = true, v⟩
  | v => ⟨True, v⟩
def cav : Value → AV
  | .int k n => .int k n
  | .bool b => .bool b
  | .slice none 0 0 => .sl true []
  | _ => .dead
def St.ev (σ : St) : Operand → AV
  | .tmp t => σ.T t
  | .const v => cav v
  | .func f => .fn f []
  | .global _ => .dead
def cellsOf : AV → List AV
  | .agg cs => cs
  | v => [v]
def cellOK : AV → Bool
  | .int _ _ => true
  | .bool _ => true
  | .sl _ _ => true
  | .own _ _ => true
  | .ptr _ _ _ => true
  | .eptr _ _ _ _ => true
  | .iptr _ => true
  | .fn _ _ => true
  | .isnil _ => true
  | _ => false
def wk1 : AV → AV
  | .sl _ r => .sl false r
  | x => x
def wk2 : AV → AV
  | .agg cs => .agg (cs.map wk1)
  | x => wk1 x
def wk3 : AV → AV
  | .tup vs => .tup (vs.map wk2)
  | x => wk2 x
def valOK : AV → Bool
  | .agg cs => cs.all cellOK
  | v => cellOK v
def setR (cs : List AV) (o : Nat) (c : List AV) : List AV := cs.take o ++ (c ++ cs.drop (o + c.length))
def ldT (i : TI) (cs : List AV) : AV := match i.ty.isAgg with
  | true => .agg (cs.take i.size)
  | false => cs.headD .dead

/-! moves, picks -/
def oMove (g : Bool) (σ : St) (x : Operand) : Out := ⟨(strip g (σ.ev x)).p, (strip g (σ.ev x)).v, []⟩
def pickv (c : Bool) : AV → AV → AV
  | .bool x, .bool y => .bool (bif c then x else y)
  | x, y => match c with
    | true => x
    | false => y
def oPick (g : Bool) (σ : St) (c a b : Operand) : Out :=
  match strip g (σ.ev c) with
  | ⟨p, .bool cv⟩ => ⟨p ∧ (strip (g && cv) (σ.ev a)).p ∧ (strip (g && !cv) (σ.ev b)).p, pickv cv (strip (g && cv) (σ.ev a)).v (strip (g && !cv) (σ.ev b)).v, []⟩
  | _ => bad
def oNew (g : Bool) (σ : St) (k : Key) (pre : Prop) (cs : List AV) : Out := ⟨g = true ∧ pre, .ptr k (σ.γ k + 1) 0, [(k, σ.γ k + 1, some (.var cs))]⟩
def oAlloc (S : Sg) (g : Bool) (σ : St) (k : Key) (t : Nat) : Out := match S.τ t with
  | some i => oNew g σ k True i.zero
  | none => bad
def oBox (g : Bool) (σ : St) (k : Key) (x : Operand) : Out := oNew g σ k ((strip g (σ.ev x)).p ∧ valOK (strip g (σ.ev x)).v = true) (cellsOf (strip g (σ.ev x)).v)
/-! build -/
structure PL where
  p : Prop
  l : List AV
def buildF (places : Nat → Option (Nat × Nat)) (g : Bool) (σ : St) : List (Nat × Operand) → List AV → PL
  | [], cs => ⟨True, cs⟩
  | (i, x) :: r, cs => match places i with
    | none => ⟨False, cs⟩
    | some (off, sz) =>
      ⟨((strip g (σ.ev x)).p ∧ valOK (strip g (σ.ev x)).v = true ∧ (cellsOf (strip g (σ.ev x)).v).length = sz ∧ off + (cellsOf (strip g (σ.ev x)).v).length ≤ cs.length) ∧
        (buildF places g σ r (setR cs off (cellsOf (strip g (σ.ev x)).v))).p, (buildF places g σ r (setR cs off (cellsOf (strip g (σ.ev x)).v))).l⟩
def placesOf (S : Sg) (fs : List (Nat × Nat)) (i : Nat) : Option (Nat × Nat) := match fs[i]? with
  | some (off, t) => match S.τ t with
    | some j => some (off, j.size)
    | none => none
  | none => none
def oBuild (S : Sg) (g : Bool) (σ : St) (t : Nat) (parts : List (Nat × Operand)) : Out := match S.τ t with
  | some ⟨.struct fs, _, _, z⟩ => ⟨(buildF (placesOf S fs) g σ parts z).p ∧ fs.all (fun f => (S.τ f.2).isSome) = true, .agg (buildF (placesOf S fs) g σ parts z).l, []⟩
  | some ⟨.array n e, _, _, z⟩ => match S.τ e with
    | some ie => ⟨(buildF (fun i => some (i * ie.size, ie.size)) g σ parts z).p, .agg (buildF (fun i => some (i * ie.size, ie.size)) g σ parts z).l, []⟩
    | none => bad
  | _ => bad
structure PR where
  p : Prop
  l : List (List AV)
def rowsF (sz : Nat) (g : Bool) (σ : St) : List (Nat × Operand) → List (List AV) → PR
  | [], rs => ⟨True, rs⟩
  | (i, x) :: r, rs => ⟨((strip g (σ.ev x)).p ∧ valOK (strip g (σ.ev x)).v = true ∧ (cellsOf (strip g (σ.ev x)).v).length = sz ∧ i < rs.length) ∧ (rowsF sz g σ r (rs.set i ((cellsOf (strip g (σ.ev x)).v).map wk1))).p,
      (rowsF sz g σ r (rs.set i ((cellsOf (strip g (σ.ev x)).v).map wk1))).l⟩
def oBuildSlice (S : Sg) (g : Bool) (σ : St) (t len : Nat) (parts : List (Nat × Operand)) : Out := match S.τ t with
  | some ⟨.slice e, _, _, _⟩ => match S.τ e with
    | some ie => ⟨(rowsF ie.size g σ parts (List.replicate len (ie.zero.map wk1))).p ∧ len * ie.size ≤ 16777216, .sl true (rowsF ie.size g σ parts (List.replicate len (ie.zero.map wk1))).l, []⟩
    | none => bad
  | _ => bad
/-! loads, stores, places -/
def ldBlk (i : TI) (B : Option Blk) (P : Prop) (off : Nat) : Out := match B with
  | some (.var cs) => ⟨P ∧ off + i.size ≤ cs.length, ldT i (cs.drop off), []⟩
  | _ => bad
def ldRow (i : TI) (B : Option Blk) (P : Prop) (r j : Nat) : Out := match B with
  | some (.rows _ rs) => ⟨P ∧ r < rs.length ∧ j + i.size ≤ (rs.getD r []).length, ldT i ((rs.getD r []).drop j), []⟩
  | some (.frz rs) => ⟨P ∧ r < rs.length ∧ j + i.size ≤ (rs.getD r []).length, ldT i ((rs.getD r []).drop j), []⟩
  | _ => bad
def oLoad (S : Sg) (g : Bool) (σ : St) (t : Nat) (a : Operand) : Out := match S.τ t with
  | some i => match strip g (σ.ev a) with
    | ⟨p, .ptr k g' off⟩ => ldBlk i (σ.H k) (p ∧ g' = σ.γ k) off
    | ⟨p, .eptr k g' r j⟩ => ldRow i (σ.H k) (p ∧ g' = σ.γ k) r j
    | ⟨p, .iptr cs⟩ => ⟨p ∧ i.size ≤ cs.length, ldT i cs, []⟩
    | _ => bad
  | none => bad
def stBlk (B : Option Blk) (k : Key) (g : Nat) (P : Prop) (off : Nat) (c : List AV) : Out := match B with
  | some (.var cs) => ⟨P ∧ off + c.length ≤ cs.length, .dead, [(k, g, some (.var (setR cs off c)))]⟩
  | _ => bad
def stRow (B : Option Blk) (k : Key) (g : Nat) (P : Prop) (r j : Nat) (c : List AV) : Out := match B with
  | some (.rows st rs) => ⟨P ∧ r < rs.length ∧ j + c.length ≤ st, .dead, [(k, g, some (.rows st (rs.set r (setR (rs.getD r []) j c))))]⟩
  | _ => bad
def oStore (S : Sg) (g : Bool) (σ : St) (t : Nat) (a x : Operand) : Out := match S.τ t with
  | some i => match strip g (σ.ev a) with
    | ⟨p, .ptr k g' off⟩ => stBlk (σ.H k) k (σ.γ k) (g = true ∧ p ∧ g' = σ.γ k ∧ (strip g (σ.ev x)).p ∧ valOK (strip g (σ.ev x)).v = true ∧ (cellsOf (strip g (σ.ev x)).v).length = i.size) off (cellsOf (strip g (σ.ev x)).v)
    | ⟨p, .eptr k g' r j⟩ => stRow (σ.H k) k (σ.γ k) (g = true ∧ p ∧ g' = σ.γ k ∧ (strip g (σ.ev x)).p ∧ valOK (strip g (σ.ev x)).v = true ∧ (cellsOf (strip g (σ.ev x)).v).length = i.size) r j ((cellsOf (strip g (σ.ev x)).v).map wk1)
    | _ => bad
  | none => bad
def oField (S : Sg) (g : Bool) (σ : St) (s : Nat) (x : Operand) (f : Nat) : Out := match S.τ s with
  | some ⟨.struct fs, _, _, _⟩ => match placesOf S fs f with
    | some (off, sz) => match strip g (σ.ev x) with
      | ⟨p, .ptr k g' o⟩ => ⟨p ∧ 0 < sz ∧ g' = σ.γ k, .ptr k g' (o + off), []⟩
      | ⟨p, .eptr k g' r j⟩ => ⟨p ∧ 0 < sz ∧ g' = σ.γ k, .eptr k g' r (j + off), []⟩
      | ⟨p, .iptr cs⟩ => ⟨p ∧ 0 < sz, .iptr (cs.drop off), []⟩
      | _ => bad
    | none => bad
  | _ => bad
def oIndex (S : Sg) (g : Bool) (σ : St) (t : Nat) (x i : Operand) : Out := match S.τ t with
  | some ⟨.slice e, _, _, _⟩ => match S.τ e with
    | some ie => match strip g (σ.ev i) with
      | ⟨q, .int _ n⟩ => match strip g (σ.ev x) with
        | ⟨p, .sl _ rs⟩ => ⟨p ∧ q ∧ 0 ≤ n ∧ n < rs.length ∧ (rs.getD n.toNat []).length = ie.size, .iptr (rs.getD n.toNat []), []⟩
        | ⟨p, .own k g'⟩ => match σ.H k with
          | some (.rows st rs) => ⟨p ∧ q ∧ g' = σ.γ k ∧ 0 ≤ n ∧ n < rs.length ∧ st = ie.size, .eptr k g' n.toNat 0, []⟩
          | some (.frz rs) => ⟨p ∧ q ∧ g' = σ.γ k ∧ 0 ≤ n ∧ n < rs.length ∧ (rs.getD n.toNat []).length = ie.size, .iptr (rs.getD n.toNat []), []⟩
          | _ => bad
        | _ => bad
      | _ => bad
    | none => bad
  | some ⟨.array len e, _, _, _⟩ => match S.τ e with
    | some ie => match strip g (σ.ev i) with
      | ⟨q, .int _ n⟩ => match strip g (σ.ev x) with
        | ⟨p, .ptr k g' o⟩ => ⟨p ∧ q ∧ 0 ≤ n ∧ n < len ∧ g' = σ.γ k, .ptr k g' (o + n.toNat * ie.size), []⟩
        | ⟨p, .eptr k g' r j⟩ => ⟨p ∧ q ∧ 0 ≤ n ∧ n < len ∧ g' = σ.γ k, .eptr k g' r (j + n.toNat * ie.size), []⟩
        | ⟨p, .iptr cs⟩ => ⟨p ∧ q ∧ 0 ≤ n ∧ n < len, .iptr (cs.drop (n.toNat * ie.size)), []⟩
        | _ => bad
      | _ => bad
    | none => bad
  | _ => bad
/-! slices -/
structure SN where
  p : Prop
  n : Int
def bnd (g : Bool) (σ : St) (d : Int) : Option Operand → SN
  | none => ⟨True, d⟩
  | some x => match strip g (σ.ev x) with
    | ⟨p, .int _ n⟩ => ⟨p, n⟩
    | _ => ⟨False, 0⟩
def exOf (ex : Bool) : Option Operand → Option Operand → Bool
  | _, some _ => true
  | none, none => ex
  | some _, none => false
def slOut (g : Bool) (σ : St) (P : Prop) (ex : Bool) (rs : List (List AV)) (lo hi mx : Option Operand) (ws : List Wr) : Out :=
  ⟨P ∧ (bnd g σ 0 lo).p ∧ (bnd g σ rs.length hi).p ∧ (bnd g σ (bnd g σ rs.length hi).n mx).p ∧ 0 ≤ (bnd g σ 0 lo).n ∧ (bnd g σ 0 lo).n ≤ (bnd g σ rs.length hi).n ∧ (bnd g σ rs.length hi).n ≤ rs.length ∧
    (bnd g σ (bnd g σ rs.length hi).n mx).n = (bnd g σ rs.length hi).n ∧ (mx.isSome = true → hi.isSome = true),
    .sl (exOf ex hi mx) ((rs.take (bnd g σ rs.length hi).n.toNat).drop (bnd g σ 0 lo).n.toNat), ws⟩
def oSlice (S : Sg) (g : Bool) (σ : St) (t : Nat) (x : Operand) (lo hi mx : Option Operand) : Out := match S.τ t with
  | some ⟨.slice e, _, _, _⟩ => match S.τ e with
    | some ie => match strip g (σ.ev x) with
      | ⟨p, .sl ex rs⟩ => slOut g σ (p ∧ rs.all (fun r => r.length == ie.size) = true) ex rs lo hi mx []
      | ⟨p, .own k g'⟩ => match σ.H k with
        | some (.rows st rs) => slOut g σ (p ∧ g' = σ.γ k ∧ st = ie.size) false rs lo hi mx [(k, σ.γ k, some (.frz rs))]
        | some (.frz rs) => slOut g σ (p ∧ g' = σ.γ k ∧ rs.all (fun r => r.length == ie.size) = true) false rs lo hi mx []
        | _ => bad
      | _ => bad
    | none => bad
  | _ => bad
def oMake (S : Sg) (g : Bool) (σ : St) (k : Key) (t : Nat) (l c : Operand) : Out := match S.τ t with
  | some ⟨.slice e, _, _, _⟩ => match S.τ e with
    | some ie => match strip g (σ.ev l), strip g (σ.ev c) with
      | ⟨p, .int _ n⟩, ⟨q, .int _ m⟩ => ⟨g = true ∧ p ∧ q ∧ m = n ∧ 0 ≤ n ∧ ie.bytes * n ≤ 140737488355328 ∧ n ≤ 4611686018427387904 ∧ 0 < ie.size, .own k (σ.γ k + 1), [(k, σ.γ k + 1, some (.rows ie.size (List.replicate n.toNat (ie.zero.map wk1))))]⟩
      | _, _ => bad
    | none => bad
  | _ => bad
/-! numbers -/
def ibin (op : BinOp) (k : IntKind) (a b : Int) : Option SV := match op with
  | .add => some ⟨True, .int k (k.wrap (a + b))⟩
  | .sub => some ⟨True, .int k (k.wrap (a - b))⟩
  | .mul => some ⟨True, .int k (k.wrap (a * b))⟩
  | .quo => some ⟨b ≠ 0, .int k (k.wrap (a.tdiv b))⟩
  | .rem => some ⟨b ≠ 0, .int k (a.tmod b)⟩
  | .eql => some ⟨True, .bool (a == b)⟩
  | .neq => some ⟨True, .bool (a != b)⟩
  | .lss => some ⟨True, .bool (decide (a < b))⟩
  | .leq => some ⟨True, .bool (decide (a ≤ b))⟩
  | .gtr => some ⟨True, .bool (decide (b < a))⟩
  | .geq => some ⟨True, .bool (decide (b ≤ a))⟩
  | _ => none
def conf : List (Option IntKind) → List AV → Bool
  | [], [] => true
  | some k :: s, .int k' _ :: r => (k == k') && conf s r
  | none :: s, .bool _ :: r => conf s r
  | _, _ => false
def cellsEq : List AV → List AV → Bool
  | [], [] => true
  | .int _ a :: r, .int _ b :: s => (a == b) && cellsEq r s
  | .bool a :: r, .bool b :: s => (a == b) && cellsEq r s
  | _, _ => false
def eqAgg (S : Sg) (neg : Bool) (P : Prop) (t : Nat) (xs ys : List AV) : Out := match S.eq t with
  | some sh => ⟨P ∧ conf sh xs = true ∧ conf sh ys = true, .bool (neg != cellsEq xs ys), []⟩
  | none => bad
def nilC : Operand → Bool
  | .const (.slice none 0 0) => true
  | _ => false
def isSl (S : Sg) (t : Nat) : Bool := match S.τ t with
  | some ⟨.slice _, _, _, _⟩ => true
  | _ => false
def isBo (S : Sg) (t : Nat) : Bool := match S.τ t with
  | some ⟨.bool, _, _, _⟩ => true
  | _ => false
def obin (S : Sg) (op : BinOp) (t : Nat) (y : Operand) (x' y' : SV) : Out := match x', y' with
  | ⟨p, .int k a⟩, ⟨q, .int k' b⟩ => match ibin op k a b with
    | some r => ⟨p ∧ q ∧ k = k' ∧ r.p, r.v, []⟩
    | none => bad
  | ⟨p, .bool a⟩, ⟨q, .bool b⟩ => match op with
    | .eql => ⟨p ∧ q ∧ isBo S t = true, .bool (a == b), []⟩
    | .neq => ⟨p ∧ q ∧ isBo S t = true, .bool (a != b), []⟩
    | _ => bad
  | ⟨p, .agg xs⟩, ⟨q, .agg ys⟩ => match op with
    | .eql => eqAgg S false (p ∧ q) t xs ys
    | .neq => eqAgg S true (p ∧ q) t xs ys
    | _ => bad
  | ⟨p, .sl _ rs⟩, _ => match op with
    | .eql => ⟨p ∧ nilC y = true ∧ isSl S t = true, .isnil rs.isEmpty, []⟩
    | _ => bad
  | _, _ => bad
def oUn (g : Bool) (σ : St) (op : UnOp) (x : Operand) : Out := match op, strip g (σ.ev x) with
  | .not, ⟨p, .bool b⟩ => ⟨p, .bool (!b), []⟩
  | _, _ => bad
def oExtract (g : Bool) (σ : St) (x : Operand) (i : Nat) : Out := match strip g (σ.ev x) with
  | ⟨p, .tup vs⟩ => ⟨p ∧ i < vs.length, vs.getD i .dead, []⟩
  | _ => bad
/-! calls -/
def viewB (g : Nat) (γ : Nat) (B : Option Blk) : AV := match B with
  | some (.rows _ rs) => if g = γ then .sl false rs else .dead
  | some (.frz rs) => if g = γ then .sl false rs else .dead
  | _ => .dead
def view1 (σ : St) : AV → AV
  | .own k g => viewB g (σ.γ k) (σ.H k)
  | x => x
def view (σ : St) : AV → AV
  | .own k g => viewB g (σ.γ k) (σ.H k)
  | .agg cs => .agg (cs.map (view1 σ))
  | x => x
def view2 (σ : St) : AV → AV
  | .tup vs => .tup (vs.map (view σ))
  | x => view σ x
def frzB (k : Key) (g : Nat) (γ : Nat) (B : Option Blk) : List Wr := match B with
  | some (.rows _ rs) => [(k, γ, some (.frz rs))]
  | _ => []
def frz1 (σ : St) : AV → List Wr
  | .own k g => frzB k g (σ.γ k) (σ.H k)
  | _ => []
def frz (σ : St) : AV → List Wr
  | .own k g => frzB k g (σ.γ k) (σ.H k)
  | .agg cs => (cs.map (frz1 σ)).flatten
  | _ => []
def frz2 (σ : St) : AV → List Wr
  | .tup vs => (vs.map (frz σ)).flatten
  | x => frz σ x
structure PA where
  p : Prop
  l : List AV
def args (g : Bool) (σ : St) : List Operand → PA
  | [] => ⟨True, []⟩
  | x :: r => ⟨(strip g (σ.ev x)).p ∧ (args g σ r).p, (strip g (σ.ev x)).v :: (args g σ r).l⟩
def ren1 (f : Key → Key) (γ : Key → Nat) : AV → AV
  | .own k _ => .own (f k) (γ (f k) + 1)
  | x => x
def ren (f : Key → Key) (γ : Key → Nat) : AV → AV
  | .own k _ => .own (f k) (γ (f k) + 1)
  | .agg cs => .agg (cs.map (ren1 f γ))
  | .tup cs => .tup (cs.map fun
    | .own k _ => .own (f k) (γ (f k) + 1)
    | .agg cs => .agg (cs.map (ren1 f γ))
    | x => x)
  | x => x
def exKey (d : Nat) (k : Key) : Key := (d, k.1 + 1)
def exWs (d : Nat) (γ : Key → Nat) : Nat → List Blk → List Wr
  | _, [] => []
  | i, B :: r => ((d, i + 1), γ (d, i + 1) + 1, some B) :: exWs d γ (i + 1) r
def oCall (S : Sg) (g : Bool) (σ : St) (d : Nat) (f : Operand) (xs : List Operand) : Out := match strip g (σ.ev f) with
  | ⟨p, .fn fid caps⟩ => match S.Γ fid (((args g σ xs).l ++ caps).map (view σ)) with
    | some (q, r, bs) => ⟨p ∧ (args g σ xs).p ∧ immL (((args g σ xs).l ++ caps).map (view σ)) = true ∧ q ∧ (bs = [] ∨ g = true), ren (exKey d) σ.γ r,
        (((args g σ xs).l ++ caps).map (frz σ)).flatten ++ exWs d σ.γ 0 bs⟩
    | none => bad
  | _ => bad
def rowsOf (σ : St) : AV → Option (Prop × List (List AV))
  | .sl _ rs => some (True, rs)
  | .own k g => match σ.H k with
    | some (.rows _ rs) => some (g = σ.γ k, rs)
    | some (.frz rs) => some (g = σ.γ k, rs)
    | _ => none
  | _ => none
def oLen (S : Sg) (g : Bool) (σ : St) (t : Nat) (x : Operand) : Out := match rowsOf σ (strip g (σ.ev x)).v with
  | some (q, rs) => ⟨(strip g (σ.ev x)).p ∧ q ∧ isSl S t = true, .int .i64 rs.length, []⟩
  | none => bad
def oCap (S : Sg) (g : Bool) (σ : St) (t : Nat) (x : Operand) : Out := match strip g (σ.ev x) with
  | ⟨p, .sl ex rs⟩ => ⟨p ∧ ex = true ∧ isSl S t = true, .int .i64 rs.length, []⟩
  | _ => bad
def apOut (g : Bool) (σ : St) (k : Key) (ie : TI) (P : Prop) (old new : List (List AV)) (ws : List Wr) (gen : Nat) : Out :=
  ⟨g = true ∧ P ∧ new.all (fun r => r.length == ie.size && r.all cellOK) = true ∧ 0 < ie.size ∧ ie.zero.length = ie.size ∧ ((old ++ new).length : Int) * ie.bytes ≤ 140737488355328 ∧ (old ++ new).length ≤ 140737488355328, .own k (gen + 1),
    ws ++ [(k, gen + 1, some (.rows ie.size (old ++ new)))]⟩
def oAppend (S : Sg) (g : Bool) (σ : St) (k : Key) (t t' : Nat) (x y : Operand) : Out := match S.τ t with
  | some ⟨.slice e, _, _, _⟩ => match S.τ e with
    | some ie => match rowsOf σ (strip g (σ.ev y)).v with
      | some (q, new) => match strip g (σ.ev x) with
        | ⟨p, .sl ex rs⟩ => apOut g σ k ie ((strip g (σ.ev y)).p ∧ q ∧ p ∧ ex = true ∧ rs.length = 0 ∧ t = t') [] new [] (σ.γ k)
        | ⟨p, .own kb g'⟩ => match σ.H kb with
          | some (.rows st rs) => apOut g σ k ie ((strip g (σ.ev y)).p ∧ q ∧ p ∧ g' = σ.γ kb ∧ st = ie.size ∧ t = t') rs new [(kb, σ.γ kb + 1, none)] (if k = kb then σ.γ k + 1 else σ.γ k)
          | _ => bad
        | _ => bad
      | none => bad
    | none => bad
  | _ => bad
def oCopy (S : Sg) (g : Bool) (σ : St) (t t' : Nat) (x y : Operand) : Out := match S.τ t with
  | some ⟨.slice e, _, _, _⟩ => match S.τ e with
    | some ie => match rowsOf σ (strip g (σ.ev y)).v, strip g (σ.ev x) with
      | some (q, new), ⟨p, .own kb g'⟩ => match σ.H kb with
        | some (.rows st rs) => ⟨g = true ∧ (strip g (σ.ev y)).p ∧ q ∧ p ∧ g' = σ.γ kb ∧ st = ie.size ∧ new.length ≤ rs.length ∧ new.all (fun r => r.length == ie.size && r.all cellOK) = true, .int .i64 new.length,
            [(kb, σ.γ kb, some (.rows st (new ++ rs.drop new.length)))]⟩
        | _ => bad
      | _, _ => bad
    | none => bad
  | _ => bad
def oMinMax (mx : Bool) (g : Bool) (σ : St) (x y : Operand) : Out := match strip g (σ.ev x), strip g (σ.ev y) with
  | ⟨p, .int k a⟩, ⟨q, .int _ b⟩ => ⟨p ∧ q, .int k (if mx then (if a < b then b else a) else (if b < a then b else a)), []⟩
  | _, _ => bad

def biOut (S : Sg) (fr : Nat) (g : Bool) (σ : St) (d : Nat) : Builtin → List Operand → List Nat → Out
  | .len, [x], [t] => oLen S g σ t x
  | .cap, [x], [t] => oCap S g σ t x
  | .append, [x, y], [t, t'] => oAppend S g σ (fr + d, 0) t t' x y
  | .copy, [x, y], [t, t'] => oCopy S g σ t t' x y
  | .min, [x, y], _ => oMinMax false g σ x y
  | .max, [x, y], _ => oMinMax true g σ x y
  | _, _, _ => bad
def callOut (S : Sg) (fr : Nat) (g : Bool) (σ : St) (d : Nat) (xs : Array Operand) (ts : Array Nat) : Callee → Out
  | .value f => oCall S g σ (fr + d) f xs.toList
  | .builtin b => biOut S fr g σ d b xs.toList ts.toList
  | _ => bad
def opOut (S : Sg) (fr : Nat) (g : Bool) (σ : St) (d : Nat) : Op → Out
  | .move x => oMove g σ x
  | .assign x => oMove g σ x
  | .pick c a b => oPick g σ c a b
  | .alloc t => oAlloc S g σ (fr + d, 0) t
  | .box _ x => oBox g σ (fr + d, 0) x
  | .build t ps => oBuild S g σ t ps.toList
  | .buildSlice t n ps => oBuildSlice S g σ t n ps.toList
  | .load t a => oLoad S g σ t a
  | .store t a x => oStore S g σ t a x
  | .fieldAddr s x f => oField S g σ s x f
  | .indexAddr t x i => oIndex S g σ t x i
  | .slice t x lo hi mx => oSlice S g σ t x lo hi mx
  | .makeSlice t l c => oMake S g σ (fr + d, 0) t l c
  | .binOp op t x y _ => obin S op t y (strip g (σ.ev x)) (strip g (σ.ev y))
  | .unOp op _ x => oUn g σ op x
  | .extract x i => oExtract g σ x i
  | .makeFunc (.func f) first caps => ⟨first.toList.isEmpty = true ∧ (args g σ caps.toList).p, .fn f (args g σ caps.toList).l, []⟩
  | .call c => callOut S fr g σ d c.args c.argTypes c.callee
  | _ => bad

/-! one operation, a region, code -/
def gOf (c : Bool) (want : Bool) : Bool := match want with
  | true => c
  | false => !c
def gval (ops : Array Oper) (σ : St) (o : Oper) : Option Bool := match o.guard with
  | none => some true
  | some (j, want) => match (ops[j]?).bind (·.dst) with
    | some d => match σ.T d with
      | .bool c => some (gOf c want)
      | .opt b (.bool c) => some (b && gOf c want)
      | _ => none
    | none => none
def okDst (N : Nat) : Option Nat → Bool
  | some d => decide (d < N)
  | none => true
def guarded (o : Oper) : Bool := o.guard.isSome
def stepK (S : Sg) (fr N : Nat) (ops : Array Oper) (o : Oper) (K : St → Prop) (σ : St) : Prop :=
  okDst N o.dst = true ∧
  match o.guard with
  | none => (opOut S fr true σ (o.dst.getD 0) o.op).pre ∧ K ((σ.wr (opOut S fr true σ (o.dst.getD 0) o.op).ws).put o.dst (opOut S fr true σ (o.dst.getD 0) o.op).v)
  | some _ => match gval ops σ o with
    | none => False
    | some g => match (opOut S fr g σ (o.dst.getD 0) o.op).ws with
      | [] => (g = true → (opOut S fr g σ (o.dst.getD 0) o.op).pre) ∧ K (σ.put o.dst (.opt g (opOut S fr g σ (o.dst.getD 0) o.op).v))
      | x :: ws => (g = true → (opOut S fr g σ (o.dst.getD 0) o.op).pre ∧ K ((σ.wr (x :: ws)).put o.dst (.opt true (opOut S fr g σ (o.dst.getD 0) o.op).v))) ∧ (g = false → K (σ.put o.dst (.opt false .dead)))
def stepsK (S : Sg) (fr N : Nat) (ops : Array Oper) : List Oper → (St → Prop) → St → Prop
  | [], K, σ => K σ
  | o :: r, K, σ => stepK S fr N ops o (stepsK S fr N ops r K) σ
inductive Ex where
  | nrm
  | ext (id : Nat)
  | ret
def thenK (K1 : St → Prop) (K : Ex → St → Prop) : Ex → St → Prop
  | .nrm, σ => K1 σ
  | .ext i, σ => K (.ext i) σ
  | .ret, σ => K .ret σ
def blockK (id : Nat) (K : Ex → St → Prop) : Ex → St → Prop
  | .nrm, σ => K .nrm σ
  | .ext i, σ => if i = id then K .nrm σ else K (.ext i) σ
  | .ret, σ => K .ret σ
def condK (c : AV) (X Y : Prop) : Prop := match c with
  | .bool b => (b = true → X) ∧ (b = false → Y)
  | .opt b' (.bool b) => b' = true ∧ (b = true → X) ∧ (b = false → Y)
  | .isnil z => (z = true → X) ∧ Y
  | _ => False
end Go.Proofs.Ytedhhjmjlpnlpaa.VW
