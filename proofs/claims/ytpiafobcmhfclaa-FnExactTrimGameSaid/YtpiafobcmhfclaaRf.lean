/- A drawn region in a round of a range over a function: what the plain law shows of its operations holds in the round too. (No statement of its own: words for walks.) -/
import Derived.RangeFuncNested
import Derived.RangeFuncBound
import Derived.RangeFuncCalls
import Derived.RangeFuncLeaves
import Derived.OwnWalkIn
import Derived.TacticsInMore
import Derived.OrdersIn
import Derived.Test.YtpiafobcmhfclaaWLast
import Derived.Test.YtpiafobcmhfclaaWTab
namespace Go.Proofs.Ytpiafobcmhfclaa.Rf
open Go.RowKit Go.Proofs.YtpiafobcmhfclaaW.PrintWords Go.Proofs.YtpiafobcmhfclaaW.PrintLast
theorem callsRound {n l : Nat} {P : Program} {f : FuncId} {args : Array Value} {w : World} {R : Ending → World → Prop} (h : Calls P f args w R) : CallsIn (Fence.wide.inRound l) n P f args w R := CallsIn.inRound l (callsIn_wide.2 h)
theorem opIn {l n : Nat} {P : Program} {o : Oper} {a : Act} {w : World} {K : Act → World → Prop} {Q : Exit → Act → World → Prop} (hd : ∀ c, o.op ≠ .defer c) (h : Oper.wp P o a w K Q) : Oper.wpIn (Fence.wide.inRound l) n P o a w K Q := by
  refine ⟨fun _ _ => trivial, ?_⟩
  have e : o.semAt (Fence.wide.inRound l).round a.eval = execOp a.eval o := Oper.semAt_some l a.eval o hd
  rw [e]
  unfold Oper.wp at h
  generalize (execOp a.eval o).run P w = r at h ⊢
  cases r with
  | ok x w' =>
    cases x with
    | value v => exact h
    | skip => exact h
    | defer d => exact h
    | enter f args => exact ⟨fun h => by simp [Fence.wide, Fence.inRound] at h, callsRound h⟩
    | row row args => exact ⟨fun h => by simp [Fence.wide, Fence.inRound] at h, fun c cs _ => let ⟨v, w', r, s⟩ := h c cs; ⟨v, w', r, stepsIn_wide.2 s⟩⟩
    | round => exact h.elim
    | _ => exact h.elim
  | halt x w' => cases x <;> exact h
theorem opsIn {l n : Nat} {P : Program} {ops : Array Oper} {Q : Exit → Act → World → Prop} {md : Region.Mode} (hd : ∀ o ∈ ops.toList, ∀ c, o.op ≠ .defer c) (hQ : ¬ LetsOut Q) : ∀ (fuel : Nat) (b : Array Bool) (a : Act) (w : World), wpAny P md ops Q fuel b a w → wpAnyIn (Fence.wide.inRound l) n P md ops Q fuel b a w
  | 0, _, _, _, h => h
  | fuel + 1, _, a, w, h => ⟨h.1, fun i hi => by
    have h2 := h.2 i hi
    unfold wpOp at h2
    unfold wpOpIn
    cases ho : ops[i]? with
    | none => rw [ho] at h2; exact opsIn hd hQ fuel _ _ _ h2
    | some o =>
      rw [ho] at h2
      simp only at h2 ⊢
      split
      · rename_i hw
        rw [if_pos hw] at h2
        rcases h2 with h2 | h2
        · have hmem : o ∈ ops.toList := by
            obtain ⟨hlt, rfl⟩ := Array.getElem?_eq_some_iff.1 ho
            simp
          exact Oper.wpIn_mono (fun a w hk => opsIn hd hQ fuel _ _ _ hk) (opIn (hd o hmem) h2)
        · exact absurd h2.2 hQ
      · rename_i hw
        rw [if_neg hw] at h2
        exact ⟨fun _ _ => trivial, opsIn hd hQ fuel _ _ _ h2⟩⟩
theorem start {P : Program} {ops : Array Oper} {Q : Exit → Act → World → Prop} {S : World → Prop} {ds : List Nat} {lr m : Nat} {id n : Nat} {a : Act} {w : World} (l : Array Bool) (hm : P.follows .mixedOrders = true) (hdf : ops.toList.all (fun o => match o.op with | .defer _ => false | _ => true) = true) (hQ : ¬ LetsOut Q) (hn : ops.size = n) (hl : Array.replicate n false = l) (hS : S w.drew)
    (h : S w.drew → wpAnyLast P .any ops Q S ds n l a w.drew) : (Code.region id ops true).wpIn (Fence.wide.inRound lr) m P Q a w := by
  subst hn
  subst hl
  have hd : ∀ o ∈ ops.toList, ∀ c, o.op ≠ .defer c := by
    intro o ho c e
    have := List.all_eq_true.1 hdf o ho
    rw [e] at this
    cases this
  exact wpIn_region_any hm (opsIn hd hQ _ _ _ _ (wpAny_of_last _ _ _ _ (h hS)))
/-- A round keeps the two blocks that the iterator reads. -/
def Kp (s b : Nat) (A B : World) : Prop := B.heap[s]? = A.heap[s]? ∧ B.heap[b]? = A.heap[b]?
theorem Kp.t {s b : Nat} {A B C : World} (h : Kp s b A B) (k : Kp s b B C) : Kp s b A C := ⟨k.1.trans h.1, k.2.trans h.2⟩
theorem putObj_ne (W : World) (l : Nat) (o : Obj) (k : Nat) (h : k ≠ l) : (W.putObj l o).heap[k]? = W.heap[k]? := by
  simp [World.putObj, Ne.symm h]
theorem Kp.b {s b : Nat} {w : World} (hs : s < w.heap.size) (hb : b < w.heap.size) (W : World) (l : Nat) (o o' : Obj) (hl : w.heap.size ≤ l) (_ : W.heap[l]? = some o) (_ : o.isCells = false) (_ : o.isWalk = false) : Kp s b W (W.putObj l o') := ⟨putObj_ne W l o' s (by omega), putObj_ne W l o' b (by omega)⟩
end Go.Proofs.Ytpiafobcmhfclaa.Rf
