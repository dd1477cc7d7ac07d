/- Words of our own beside the print's words: '==' of arrays of two elements as one Bool; copy into a row that was just made. -/
import Derived.Test.YtdhajbodlpeheaaC5WEqStruct
import Derived.Test.YtdhajbodlpeheaaC5WMore
import Derived.Laws.CopyOwn
import Derived.Laws.CopyRow
import Derived.Lib.Hide
namespace Go.Proofs.YtdhajbodlpeheaaW.PrintWords
open Go.RowKit
set_option linter.unusedSimpArgs false
section
variable {P : Program} {d n : Nat} {xs ys : Array Value} {e : TypeId} {a0 a1 b0 b1 : Value} {r s : Bool} {w : World}
end
theorem cell_set_some {w : World} {p q : Addr} {x v : Value} (h : w.cell? q = some v) : ∃ v', (w.setCell p x).cell? q = some v' := by
  by_cases e : p = q
  · subst e
    exact ⟨x, World.cell?_setCell_same w p x h⟩
  · exact ⟨v, (World.cell?_setCell_other w p q x e).trans h⟩
theorem cell_none_set {w : World} {p q : Addr} {x : Value} (h : w.cell? q = none) : (w.setCell p x).cell? q = none := by
  by_cases e : p = q
  · subst e
    simp only [World.setCell, World.cell?, Array.getElem?_modify, if_true] at h ⊢
    cases hb : w.heap[p.block]? with
    | none => rfl
    | some o =>
      cases o with
      | cells c e f =>
        simp only [hb] at h
        simp only [Option.map_some]
        split
        · rfl
        · rename_i hs
          simp only [hs] at h ⊢
          simp at h ⊢
          omega
      | _ => rfl
  · exact (World.cell?_setCell_other w p q x e).trans h
theorem cell_none_sets {g : Nat} {q : Addr} : ∀ (vs : List Value) (o : Nat) {w : World}, w.cell? q = none → (w.setCells g o vs).cell? q = none
  | [], _, _, h => h
  | v :: r, o, w, h => by rw [World.setCells]; exact cell_none_sets r (o + 1) (cell_none_set h)
theorem cell_of_sets {w : World} {g o : Nat} {vs : List Value} {q : Addr} {v : Value} (h : (w.setCells g o vs).cell? q = some v) : ∃ v', w.cell? q = some v' := by
  cases hq : w.cell? q with
  | none => rw [cell_none_sets vs o hq] at h; cases h
  | some u => exact ⟨u, rfl⟩
theorem frozen_of_sets {w : World} {g o : Nat} {vs : List Value} {q : Addr} (h : (w.setCells g o vs).frozen? q = false) : w.frozen? q = false := (World.frozen?_setCells g vs o w q).symm.trans h
section
variable {P : Program}
theorem run_copy_row_sz (w : World) (dT sT ty elem : TypeId) (g o dLen dCap : Nat) (a : Addr) (sLen sCap sz : Nat) (cur : Array Value) (t : TypeId) (cs : List Value)
    (hu : P.underlying dT = some (.slice elem)) (hs : (P.info? elem).map (·.size) = some sz)
    (hg : w.heap[g]? = some (.cells cur t (0, 0))) (hn : cs.length = Nat.min sLen dLen * sz)
    (hsrc : ∀ j v, cs[j]? = some v → w.cell? (a.add j) = some v) (hfit : o + cs.length ≤ cur.size) (h1 : ∀ v ∈ cs, v.oneCell' = true) :
    (Builtin.copy_ #[dT, sT] ty #[.slice (some ⟨g, o, none⟩) dLen dCap, .slice (some a) sLen sCap]).run P w =
      .ok (goInt (Nat.min sLen dLen)) (w.setRow g (cur.toList.take o ++ cs ++ cur.toList.drop (o + cs.length)).toArray) := by
  have hl := run_loadCells_list (P := P) w a cs hsrc
  have hst := run_storeCells_at P g o t cs 0 cur w hg (by simpa using hfit) h1
  cases hq : P.info? elem with
  | none => simp [hq] at hs
  | some i =>
    have hi : i.size = sz := by simpa [hq] using hs
    simp [Builtin.copy_, run_underlying hu, Builtin.lenOf, Builtin.firstCells, sizeOf, typeInfo, hq, hi, ← hn, hl, hst]
theorem run_copy_zero (w : World) (dT sT ty elem : TypeId) (d a : Option Addr) (dLen dCap sCap sz : Nat) (hu : P.underlying dT = some (.slice elem)) (hs : (P.info? elem).map (·.size) = some sz) :
    (Builtin.copy_ #[dT, sT] ty #[.slice d dLen dCap, .slice a 0 sCap]).run P w = .ok (goInt 0) w := by
  cases hq : P.info? elem with
  | none => simp [hq] at hs
  | some i =>
    have hi : i.size = sz := by simpa [hq] using hs
    have hl : ∀ (x : Addr), (loadCells x 0).run P w = .ok #[] w := fun x => by simpa using run_loadCells_list (P := P) w x [] (by simp)
    cases d <;> cases a <;> simp [Builtin.copy_, run_underlying hu, Builtin.lenOf, Builtin.firstCells, sizeOf, typeInfo, hq, hi, storeCells, hl]
variable {ops : Array Oper} {rest : List Oper} {o : Oper} {a : Act} {Q : Exit → Act → World → Prop} {α : Type}
theorem print_copy {w0 W : World} {Rr : α → List Value → Prop} (B : Nat) (hgd : o.guard = none) (d s : Operand) (dT sT e : TypeId)
    (ho : o.op = .call { callee := .builtin .copy, args := #[d, s], argTypes := #[dT, sT] }) (ht : P.underlying dT = some (.slice e)) (sz : Nat) (hsz : (P.info? e).map (·.size) = some sz)
    (g n cap : Nat) (A : Option Addr) (m c : Nat) (xs : List α) (hd : a.eval d = .slice (some ⟨g, 0, none⟩) n cap) (hs : a.eval s = .slice A m c) (hmn : m ≤ n)
    (HR : ReadsRow Rr sz W A m xs) (hone : ∀ x cs, Rr x cs → ∀ u ∈ cs, u.oneCell' = true)
    (cur : Array Value) (t : TypeId) (hg : W.heap[g]? = some (.cells cur t (0, 0))) (hfit : m * sz ≤ cur.size) (hB : Below B w0 W) (hBg : B ≤ g)
    (h : ∀ W' inner, Reps Rr sz xs inner → Hid (W'.heap[g]? = some (.cells (inner ++ cur.toList.drop inner.length).toArray t (0, 0))) → Below B w0 W' → wpList P ops Q rest (a.put o.dst (goInt m)) W') :
    wpList P ops Q (o :: rest) a W := by
  refine wpList_plain hgd fun K hK => ?_
  have hmin : Nat.min m n = m := Nat.min_eq_left hmn
  have hx : xs.length = m := HR.1
  rcases A with _ | ad
  · have h0 : m = 0 := by
      rcases Nat.eq_zero_or_pos m with h0 | h0
      · exact h0
      · obtain ⟨ad, he, _⟩ := HR.2.2 h0
        cases he
    subst h0
    obtain rfl : xs = [] := List.eq_nil_of_length_eq_zero hx
    have hrun := run_copy_zero (P := P) W dT sT o.type e (some ⟨g, 0, none⟩) none n cap c sz ht hsz
    unfold Oper.wp
    simp [execOp, ho, resolve, invoke, builtin, hd, hs, hrun, Result.andThen]
    exact hK _ _ (h W [] (Reps.none _ _) (show _ = _ by simpa using hg) hB)
  · obtain ⟨inner, hr, hc⟩ := HR.inner_
    have hil : inner.length = m * sz := by rw [hr.1, hx]
    have h1 : ∀ u ∈ inner, u.oneCell' = true := by
      rcases Nat.eq_zero_or_pos sz with h0 | h0
      · subst h0
        obtain rfl : inner = [] := List.eq_nil_of_length_eq_zero (by rw [hil, Nat.mul_zero])
        exact fun u hu => by simp at hu
      · exact Kd.reps_one hr h0 hone
    have hrun := run_copy_row_sz (P := P) W dT sT o.type e g 0 n cap ad m c sz cur t inner ht hsz hg (by rw [hmin]; exact hil) hc (by omega) h1
    rw [hmin] at hrun
    unfold Oper.wp
    simp only [execOp, ho, resolve, invoke, builtin, hd, hs]
    simp [hd, hs, hrun, Result.andThen]
    refine hK _ _ (h _ inner hr (show _ = _ from ?_) (below_setRow hB hBg _))
    have := setRow_heap W g cur (cur.toList.take 0 ++ inner ++ cur.toList.drop (0 + inner.length)).toArray t _ hg
    simpa using this
theorem R_copied {d : Kd α} {Rr : α → List Value → Prop} {W : World} {base e g n cap : Nat} {ok : Nat → Prop} {xs : List α} {inner back : List Value} (hr : Reps Rr d.sz xs inner)
    (hg : W.heap[g]? = some (.cells (inner ++ back).toArray e (0, 0))) (hb : base ≤ g) (hx : xs.length = n) (hn : n ≤ cap) (hc : cap ≤ maxLen) (hs : inner.length + back.length = cap * d.sz) (hok : ok g)
    (hKM : ∀ x cs, Rr x cs → d.M W base (fun k => ok k ∧ some k ≠ some g) x cs) : d.R e W base ok (.slice (some ⟨g, 0, none⟩) n cap) xs := by
  refine ⟨fun k hk => ?_, inner, ⟨hr.1, .inr ⟨g, cap, (inner ++ back).toArray, by rw [hx], hb, hg, by omega, hc, by simpa using hs, ?_⟩⟩, hr.imp_ (fun p c hp => hKM p c hp)⟩
  · have : g = k := by simpa [Value.ownBlock] using hk
    subst this
    exact hok
  · rw [← hr.1]
    simp
end
end Go.Proofs.YtdhajbodlpeheaaW.PrintWords
