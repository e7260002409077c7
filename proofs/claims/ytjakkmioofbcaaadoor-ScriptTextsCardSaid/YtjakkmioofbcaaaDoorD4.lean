/- The walk over Parse. -/
import Derived.Test.YtjakkmioofbcaaaDoorD3
namespace Go.Proofs.YtjakkmioofbcaaaDoor
open Go.RowKit
theorem step17 (v : Value) (ws : List (List UInt8)) (w : World) (hw : Ws w v ws) (h0 : ws ≠ []) (hx : ∀ x ∈ ws, x.length ≤ 100000) :
    Calls Tryd.prog 43 #[v] w fun e w' => StepEnd w.heap.size ws e w' ∧ Below w.heap.size w w' := by
  by_cases h1 : ws.getD 0 [] = fuseW
  · exact step17_fuse v ws w hw h0 hx h1
  · by_cases h2 : ws.getD 0 [] = powerW
    · exact step17_power v ws w hw h0 hx h2
    · by_cases h3 : ws.getD 0 [] = confW
      · exact step17_conf v ws w hw h0 hx h3
      · exact step17_call v ws w hw h0 hx ⟨h1, h2, h3⟩
theorem splitL_sum (x : UInt8) (l : List UInt8) : ∀ y ∈ splitL x l, y.length ≤ l.length := by
  induction l with
  | nil => intro y hy; simp [splitL] at hy; subst hy; simp
  | cons c r ih =>
    intro y hy
    rw [splitL] at hy
    split at hy
    · rcases List.mem_cons.1 hy with rfl | hy
      · simp
      · have := ih y hy; simp; omega
    · split at hy
      · simp at hy; subst hy; simp
      · rename_i h t heq
        rcases List.mem_cons.1 hy with rfl | hy
        · have := ih h (by rw [heq]; simp); simp; omega
        · have := ih y (by rw [heq]; simp [hy]); simp; omega
def zSt : St := ⟨0, 0, [], [], 0, [], c0⟩
/-- Parse, in plain words -/
def parseP (l : List UInt8) : Option St := stepP (splitL 32 l)
def parseE (l : List UInt8) : Int := if 65536 < l.length then 2 else match parseP l with | none => 300 | some _ => 0
def parseS (l : List UInt8) : St := if 65536 < l.length then zSt else (parseP l).getD zSt
/-- how Parse ends: a step in memory -/
def GiveSt (B : Nat) (s : St) (e : Ending) (w' : World) (last : Value) : Prop := ∃ (A : Option Addr) (cap : Nat), Kp w' (.slice A s.kp.length cap) s.kp ∧ (∀ a, A = some a → B ≤ a.block) ∧ Fits s ∧ e = .returned (.tuple #[.agg (s.L (.slice A s.kp.length cap)).toArray, last])
end Go.Proofs.YtjakkmioofbcaaaDoor
