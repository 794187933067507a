/- For any list of whole numbers, the sum of nimbers that the program tells is the reference's, and the list is left as it was. -/
import Derived.Test.YtacpeffinmfdaaaQFnExactNimSumx2
namespace Go.Proofs.Ytacpeffinmfdaaa.Pure
open Go.RowKit Go.Proofs.Ytacpeffinmfdaaa.QFnExactNimSum Go.Proofs.YtacpeffinmfdaaaW.PrintWords Go.Proofs.YtacpeffinmfdaaaW.PrintLast
set_option linter.unusedVariables false
set_option linter.unusedSimpArgs false
namespace LFnExactNimSum
/-! ### small words -/
theorem wsucc (i : Nat) (h : i < 2 ^ 62) : wrap64 ((i : Int) + 1) = ((i + 1 : Nat) : Int) := by unfold wrap64; omega
theorem drop_rd {l : List Int} {i : Nat} (h : i < l.length) : l.drop i = rd l (i : Int) :: l.drop (i + 1) := by
  rw [List.drop_eq_getElem_cons h]
  simp [rd, List.getD_eq_getElem?_getD, List.getElem?_eq_getElem h]

theorem impl_isN (a : Int) : impl_isNimber.f a = some (decide (0 ≤ a ∧ a ≤ 65535)) := by
  unfold impl_isNimber.f impl_in.f
  by_cases h : 0 ≤ a <;> simp [h]

/-! ### a copy of a list of numbers is that list -/
theorem toIntS_l (x : List Int) (hx : x.length ≤ 2 ^ 60) : ∀ (d k i : Nat) (y : List Int), i + d = x.length → y.length = x.length → (∀ j, j < i → y[j]? = x[j]?) → d < k → laws_toIntS.l0 k x y i = some x := by
  intro d
  induction d with
  | zero =>
    intro k i y hi hy hj hk
    obtain ⟨k, rfl⟩ : ∃ m, k = m + 1 := ⟨k - 1, by omega⟩
    simp only [laws_toIntS.l0]
    rw [if_neg (by omega)]
    congr 1
    apply List.ext_getElem? 
    intro j
    by_cases h : j < i
    · exact hj j h
    · rw [List.getElem?_eq_none (by omega), List.getElem?_eq_none (by omega)]
  | succ d ih =>
    intro k i y hi hy hj hk
    obtain ⟨k, rfl⟩ : ∃ m, k = m + 1 := ⟨k - 1, by omega⟩
    have h1 : (i : Int) < (x.length : Int) := by omega
    have h2 : (0 : Int) ≤ (i : Int) := Int.natCast_nonneg _
    have h3 : (i : Int) < (y.length : Int) := by omega
    have h4 : i < x.length := by omega
    simp only [laws_toIntS.l0]
    rw [if_pos h1, if_pos h2, if_pos h3, wsucc i (by omega)]
    refine ih k (i + 1) _ (by omega) (by simpa using hy) ?_ (by omega)
    intro j hlt
    rw [Int.toNat_natCast, List.getElem?_set]
    by_cases e : i = j
    · subst e
      rw [if_pos rfl, if_pos (by omega)]
      simp [rd, List.getD_eq_getElem?_getD, List.getElem?_eq_getElem h4]
    · rw [if_neg e]
      exact hj j (by omega)
theorem toIntS (x : List Int) (hx : x.length ≤ 17592186044416) (k : Nat) (hk : x.length < k) : laws_toIntS.f k x = some x := by
  unfold laws_toIntS.f
  rw [if_pos (Int.natCast_nonneg _), if_pos (by rw [Int.toNat_natCast]; omega), Int.toNat_natCast]
  exact toIntS_l x (by omega) x.length k 0 _ (by omega) (by simp) (fun j h => by omega) hk

/-! ### a list of numbers equals itself -/
theorem eqIntS_l (x : List Int) (hx : x.length ≤ 2 ^ 60) : ∀ (d k i : Nat), i + d = x.length → d < k → laws_eqIntS.l0 k x x i = some true := by
  intro d
  induction d with
  | zero =>
    intro k i hi hk
    obtain ⟨k, rfl⟩ : ∃ m, k = m + 1 := ⟨k - 1, by omega⟩
    simp only [laws_eqIntS.l0]
    rw [if_neg (by omega)]
  | succ d ih =>
    intro k i hi hk
    obtain ⟨k, rfl⟩ : ∃ m, k = m + 1 := ⟨k - 1, by omega⟩
    have h1 : (i : Int) < (x.length : Int) := by omega
    have h2 : (0 : Int) ≤ (i : Int) := Int.natCast_nonneg _
    simp only [laws_eqIntS.l0, if_pos h1, if_pos h2, if_true]
    rw [wsucc i (by omega)]
    exact ih k (i + 1) (by omega) (by omega)
theorem eqIntS (x : List Int) (hx : x.length ≤ 17592186044416) (k : Nat) (hk : x.length < k) : laws_eqIntS.f k x x = some true := by
  unfold laws_eqIntS.f
  rw [if_pos rfl]
  exact eqIntS_l x (by omega) x.length k 0 (by omega) hk

def isN (x : Int) : Bool := decide (0 ≤ x ∧ x ≤ 65535)
theorem all_l (l : List Int) (hl : l.length ≤ 2 ^ 60) : ∀ (d k i : Nat), i + d = l.length → d < k → spec_l1All.l0 k 0 65535 l (l.length : Int) i = some ((l.drop i).all isN) := by
  intro d
  induction d with
  | zero =>
    intro k i hi hk
    obtain ⟨k, rfl⟩ : ∃ m, k = m + 1 := ⟨k - 1, by omega⟩
    simp only [spec_l1All.l0]
    rw [if_neg (by omega), List.drop_eq_nil_of_le (by omega)]
    rfl
  | succ d ih =>
    intro k i hi hk
    obtain ⟨k, rfl⟩ : ∃ m, k = m + 1 := ⟨k - 1, by omega⟩
    have h1 : (i : Int) < (l.length : Int) := by omega
    have h2 : (0 : Int) ≤ (i : Int) := Int.natCast_nonneg _
    simp only [spec_l1All.l0, if_pos h1, if_pos h2]
    rw [wsucc i (by omega), drop_rd (by omega), List.all_cons]
    have e : spec_l1In.f (rd l (i : Int)) 0 65535 = some (isN (rd l (i : Int))) := by
      unfold spec_l1In.f isN
      by_cases h : rd l (i : Int) ≥ 0 <;> simp [h]
    rw [e]
    simp only [Option.bind_some]
    by_cases h : isN (rd l (i : Int)) = true
    · rw [if_pos h, h, Bool.true_and]
      exact ih k (i + 1) (by omega) (by omega)
    · rw [if_neg h]
      rw [Bool.not_eq_true] at h
      rw [h, Bool.false_and]
def sumL (acc : Int) : List Int → Int
  | [] => acc
  | x :: xs => sumL (Go.bits .xor .i64 acc x) xs
theorem spec_l (l : List Int) (hl : l.length ≤ 2 ^ 60) : ∀ (d k i : Nat) (acc : Int), i + d = l.length → d < k → spec_NimSum.l0 k acc l (l.length : Int) i = some (sumL acc (l.drop i), true) := by
  intro d
  induction d with
  | zero =>
    intro k i acc hi hk
    obtain ⟨k, rfl⟩ : ∃ m, k = m + 1 := ⟨k - 1, by omega⟩
    simp only [spec_NimSum.l0]
    rw [if_neg (by omega), List.drop_eq_nil_of_le (by omega)]
    rfl
  | succ d ih =>
    intro k i acc hi hk
    obtain ⟨k, rfl⟩ : ∃ m, k = m + 1 := ⟨k - 1, by omega⟩
    have h1 : (i : Int) < (l.length : Int) := by omega
    have h2 : (0 : Int) ≤ (i : Int) := Int.natCast_nonneg _
    simp only [spec_NimSum.l0, if_pos h1, if_pos h2]
    rw [wsucc i (by omega), drop_rd (by omega), ih k (i + 1) _ (by omega) (by omega)]
    rfl
def implF (acc : Int) (i : Nat) : List Int → Int × Bool
  | [] => (acc, true)
  | x :: xs => if isN x = true then (if i = 40 then (0, false) else implF (Go.bits .xor .i64 acc x) (i + 1) xs) else (0, false)
theorem impl_l (l : List Int) (hl : l.length ≤ 2 ^ 60) : ∀ (d k i : Nat) (acc : Int), i + d = l.length → d < k → impl_NimSum.l0 k acc l (l.length : Int) i = some (implF acc i (l.drop i)) := by
  intro d
  induction d with
  | zero =>
    intro k i acc hi hk
    obtain ⟨k, rfl⟩ : ∃ m, k = m + 1 := ⟨k - 1, by omega⟩
    simp only [impl_NimSum.l0]
    rw [if_neg (by omega), List.drop_eq_nil_of_le (by omega)]
    rfl
  | succ d ih =>
    intro k i acc hi hk
    obtain ⟨k, rfl⟩ : ∃ m, k = m + 1 := ⟨k - 1, by omega⟩
    have h1 : (i : Int) < (l.length : Int) := by omega
    have h2 : (0 : Int) ≤ (i : Int) := Int.natCast_nonneg _
    have hn := impl_isN (rd l (i : Int))
    simp only [impl_NimSum.l0, if_pos h1, if_pos h2, hn, Option.bind_some]
    rw [wsucc i (by omega), drop_rd (by omega), ih k (i + 1) _ (by omega) (by omega)]
    simp only [implF]
    by_cases h : 0 ≤ rd l (i : Int) ∧ rd l (i : Int) ≤ 65535
    · have h' : isN (rd l (i : Int)) = true := decide_eq_true h
      rw [if_pos (decide_eq_true h), if_pos h']
      by_cases h40 : i = 40
      · rw [if_pos h40, if_pos (by omega)]
      · rw [if_neg h40, if_neg (by omega)]
    · have h' : ¬ isN (rd l (i : Int)) = true := by simpa [isN] using h
      rw [if_neg (by simpa using h), if_neg h']
theorem same : ∀ (xs : List Int) (i : Nat) (acc : Int), i ≤ 40 → implF acc i xs = if xs.all isN = true ∧ i + xs.length ≤ 40 then (sumL acc xs, true) else (0, false)
  | [], i, acc, hi => by rw [if_pos ⟨rfl, by simpa using hi⟩]; rfl
  | x :: xs, i, acc, hi => by
    unfold implF
    rw [List.all_cons, List.length_cons]
    by_cases h : isN x = true
    · rw [if_pos h, h, Bool.true_and]
      by_cases h40 : i = 40
      · rw [if_pos h40, if_neg (by omega)]
      · rw [if_neg h40, same xs (i + 1) _ (by omega)]
        by_cases g : xs.all isN = true ∧ i + 1 + xs.length ≤ 40
        · rw [if_pos g, if_pos ⟨g.1, by omega⟩]; rfl
        · rw [if_neg g, if_neg (fun q => g ⟨q.1, by omega⟩)]
    · rw [if_neg h]
      rw [Bool.not_eq_true] at h
      rw [h, Bool.false_and, if_neg (by simp)]
theorem proved : laws_FnExactNimSum.Pure := by
  intro l hm hl _
  refine ⟨l.length + 60, ?_⟩
  unfold laws_FnExactNimSum.f
  by_cases hb : (l.length : Int) > 1048576
  · rw [if_pos hb]
  · rw [if_neg hb, toIntS l (by omega) _ (by omega)]
    simp only [Option.bind_some]
    have e1 : spec_NimSum.f (l.length + 60) l = some (if l.all isN = true ∧ l.length ≤ 40 then (sumL 0 l, true) else (0, false)) := by
      unfold spec_NimSum.f
      by_cases h : (l.length : Int) > 40
      · rw [if_pos h, if_neg (by omega)]
        simp [spec_NimSum.j0]
      · rw [if_neg h]
        unfold spec_l1All.f
        have hall := all_l l (by omega) l.length (l.length + 60) 0 (by omega) (by omega)
        simp only [Int.natCast_zero, List.drop_zero] at hall
        rw [hall]
        simp only [Option.bind_some]
        by_cases ha : l.all isN = true
        · rw [ha, if_pos ⟨rfl, by omega⟩]
          show spec_NimSum.j0 (l.length + 59 + 1) l false = _
          simp only [spec_NimSum.j0]
          rw [if_neg (by decide)]
          have := spec_l l (by omega) l.length (l.length + 59) 0 0 (by omega) (by omega)
          simp only [Int.natCast_zero, List.drop_zero] at this
          exact this
        · rw [if_neg (fun q => ha q.1)]
          rw [Bool.not_eq_true] at ha
          rw [ha]
          simp [spec_NimSum.j0]
    have e2 : impl_NimSum.f (l.length + 60) l = some (if l.all isN = true ∧ l.length ≤ 40 then (sumL 0 l, true) else (0, false)) := by
      unfold impl_NimSum.f
      have := impl_l l (by omega) l.length (l.length + 60) 0 0 (by omega) (by omega)
      simp only [Int.natCast_zero, List.drop_zero] at this
      rw [this, same l 0 _ (by omega)]
      simp
    rw [e1, e2]
    simp only [Option.bind_some]
    generalize (if l.all isN = true ∧ l.length ≤ 40 then (sumL 0 l, true) else ((0 : Int), false)) = r
    simp only [if_true]
    have : (r.2 != r.2) = false := by simp
    rw [this]
    show laws_FnExactNimSum.j0 (l.length + 59 + 1) l l false = _
    simp only [laws_FnExactNimSum.j0]
    rw [if_neg (by decide), toIntS l (by omega) _ (by omega)]
    simp only [Option.bind_some]
    rw [eqIntS l (by omega) _ (by omega)]
    simp

end LFnExactNimSum
theorem FnExactNimSum : laws_FnExactNimSum.Pure := LFnExactNimSum.proved
end Go.Proofs.Ytacpeffinmfdaaa.Pure
