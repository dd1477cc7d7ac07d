/- Turns. -/
import Derived.Test.YtedhhjmjlpnlpaaY7
namespace Go.Proofs.Ytedhhjmjlpnlpaa.VW
open Go Go.RowKit
set_option linter.unusedVariables false
set_option linter.unusedSimpArgs false

@[simp] def eB (b : Bool) : List AV := [.bool b]
def goN (bs : List Bool) (s : Nat) : Nat → Nat → Option Nat
  | 0, _ => none
  | f + 1, i => if bs.getD ((s + i) % bs.length) false then some ((s + i) % bs.length) else goN bs s f (i + 1)
def simB (bs : List Bool) : Nat → Nat → List Bool → List Bool
  | 0, _, c => c
  | f + 1, s, c => match goN bs s bs.length 0 with
    | none => c
    | some k => simB bs f ((k + 1) % bs.length) (c.set k true)
def bits (a : List Que) : List Bool := a.map fun q => decide (0 < q.l.length)
theorem bits_len (a : List Que) : (bits a).length = a.length := by simp [bits]
theorem bits_get (a : List Que) (k : Nat) : (bits a).getD k false = decide (0 < (a.getD k default).l.length) := by
  unfold bits
  by_cases h : k < a.length
  · simp [h]
  · have h' : a.length ≤ k := by omega
    simp [List.getD, List.getElem?_eq_none h', h']
    rfl
theorem goQ_N (a : List Que) (s : Nat) : ∀ (f i : Nat), goQ a s f i = match goN (bits a) s f i with | none => -1 | some k => (k : Int)
  | 0, i => rfl
  | f + 1, i => by
    rw [goQ, goN, bits_len, bits_get]
    by_cases h : 0 < (a.getD ((s + i) % a.length) default).l.length
    · rw [if_pos h, if_pos (by simpa using h)]
    · rw [if_neg h, if_neg (by simpa using h)]; exact goQ_N a s f (i + 1)
theorem firstQ_N (tn : Int) (a : List Que) : firstQ tn a = match goN (bits a) (stQ tn a) (bits a).length 0 with | none => -1 | some k => (k : Int) := by
  unfold firstQ; rw [goQ_N, bits_len]
theorem sim4 : ∀ b0 b1 b2 b3 : Bool, ∀ s : Fin 4, simB [b0, b1, b2, b3] 4 s.val [false, false, false, false] = [b0, b1, b2, b3] := by decide
theorem sim3 : ∀ b0 b1 b2 : Bool, ∀ s : Fin 3, simB [b0, b1, b2] 3 s.val [false, false, false] = [b0, b1, b2] := by decide
theorem sim2 : ∀ b0 b1 : Bool, ∀ s : Fin 2, simB [b0, b1] 2 s.val [false, false] = [b0, b1] := by decide
theorem sim1 : ∀ b0 : Bool, ∀ s : Fin 1, simB [b0] 1 s.val [false] = [b0] := by decide
theorem sim_all : ∀ (bs : List Bool) (s : Nat), bs.length ≤ 4 → (s < bs.length ∨ s = 0) → simB bs bs.length s (List.replicate bs.length false) = bs
  | [], s, _, _ => rfl
  | [b0], s, _, h => sim1 b0 ⟨s, by simp at h; omega⟩
  | [b0, b1], s, _, h => sim2 b0 b1 ⟨s, by simp at h; omega⟩
  | [b0, b1, b2], s, _, h => sim3 b0 b1 b2 ⟨s, by simp at h; omega⟩
  | [b0, b1, b2, b3], s, _, h => sim4 b0 b1 b2 b3 ⟨s, by simp at h; omega⟩
  | _ :: _ :: _ :: _ :: _ :: _, s, h, _ => by simp at h
theorem stQ_lt (tn : Int) (a : List Que) : stQ tn a < a.length ∨ stQ tn a = 0 := by unfold stQ; split <;> omega
theorem stQ_nat {k : Nat} {a : List Que} (h : k < a.length) : stQ (k : Int) a = k := by unfold stQ; rw [if_neg (by omega)]; rfl
theorem okT_tnset {t : Tsk} {n : Int} (h : okT t = true) (h0 : 0 ≤ n) (h1 : n < 20) : okT { t with tn := n } = true := by
  unfold okT okNum okSiz at h ⊢
  simp only [Bool.and_eq_true, decide_eq_true_eq] at h ⊢
  grind
theorem askE_tn {t : Tsk} {n : Int} {a c : List Que} (h : okT t = true) (h0 : 0 ≤ n) (h1 : n < 20) : askE { t with tn := n } a c = askE t a c := by
  unfold askE; rw [if_pos h, if_pos (okT_tnset h h0 h1)]
/-- One turn. -/
theorem turn_one {t : Tsk} {n : Int} {a : List Que} (hok : okT t = true) (h0 : 0 ≤ n) (h1 : n < 20) (hp : t.pd = []) (ha : askE t a [] = 0) :
    (goN (bits a) (stQ n a) (bits a).length 0 = none ∧ turnE { t with tn := n } a = 6) ∨
    ∃ k : Nat, goN (bits a) (stQ n a) (bits a).length 0 = some k ∧ ∃ h : k < a.length, 0 < a[k].l.length ∧ turnE { t with tn := n } a = 0 ∧ turnK { t with tn := n } a = k ∧ turnT { t with tn := n } a = { t with tn := (((k + 1) % a.length : Nat) : Int) } := by
  have hask : askE { t with tn := n } a [] = 0 := by rw [askE_tn hok h0 h1]; exact ha
  have hN := firstQ_N n a
  cases hg : goN (bits a) (stQ n a) (bits a).length 0 with
  | none =>
    rw [hg] at hN
    left; refine ⟨rfl, ?_⟩
    unfold turnE; rw [if_neg (by simp [hask]), if_pos (by left; show firstQ n a < 0; rw [hN]; decide)]
  | some k =>
    rw [hg] at hN
    simp only at hN
    right
    rcases firstQ_r n a with hr | ⟨k', hk', hk2, hk3⟩
    · rw [hN] at hr; omega
    · have e : k' = k := by rw [hN] at hk'; omega
      subst e
      have hT : turnE { t with tn := n } a = 0 := by
        unfold turnE; rw [if_neg (by simp [hask]), if_neg]
        simp only [hp, List.length_nil]
        rintro (h | h)
        · rw [hN] at h; omega
        · omega
      refine ⟨k', rfl, hk2, hk3, hT, ?_, ?_⟩
      · unfold turnK; rw [if_pos hT]; exact hN
      · unfold turnT; rw [if_pos hT]
        simp only
        rw [hN]
        have := tmod_nat (k' + 1) a.length
        rw [Int.natCast_add] at this
        simp only [Int.natCast_one, Int.ofNat_one] at this
        rw [← this]

theorem thenK_thenK (A J : St → Prop) (K : Ex → St → Prop) : thenK A (thenK J K) = thenK A K := by
  funext e σ; cases e <;> rfl
theorem awp_assoc {S : Sg} {fr N : Nat} {x y z : Code} {K : Ex → St → Prop} {σ : St} : awp S fr N (.seq x (.seq y z)) K σ = awp S fr N (.seq (.seq x y) z) K σ := by
  show awp S fr N x (thenK (awp S fr N y (thenK (awp S fr N z K) K)) K) σ = awp S fr N x (thenK (awp S fr N y (thenK (awp S fr N z K) K)) (thenK (awp S fr N z K) K)) σ
  rw [thenK_thenK]

end Go.Proofs.Ytedhhjmjlpnlpaa.VW
