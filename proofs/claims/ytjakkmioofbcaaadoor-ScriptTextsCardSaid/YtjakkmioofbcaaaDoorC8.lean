/- The walk over called. -/
import Derived.Test.YtjakkmioofbcaaaDoorC7
namespace Go.Proofs.YtjakkmioofbcaaaDoor
open Go.RowKit
def opOf (x : List UInt8) : Int := if x = wordL 1 then 1 else if x = wordL 2 then 2 else if x = wordL 3 then 3 else if x = wordL 4 then 4 else if x = wordL 5 then 5 else if x = wordL 6 then 6 else if x = wordL 7 then 7 else if x = wordL 8 then 8 else 0
theorem opOf_word : ∀ k : Fin 9, opOf (wordL k.1) = k.1 := by decide
theorem opOf_hit {k : Nat} (h1 : 1 ≤ k) (h8 : k ≤ 8) {x : List UInt8} (h : wordL k = x) : opOf x = k := by
  subst h
  exact opOf_word ⟨k, by omega⟩
theorem opOf_none {x : List UInt8} (h : ∀ j : Nat, 1 ≤ j → j ≤ 8 → wordL j ≠ x) : opOf x = 0 := by
  unfold opOf
  rw [if_neg (fun e => h 1 (by omega) (by omega) e.symm), if_neg (fun e => h 2 (by omega) (by omega) e.symm), if_neg (fun e => h 3 (by omega) (by omega) e.symm), if_neg (fun e => h 4 (by omega) (by omega) e.symm), if_neg (fun e => h 5 (by omega) (by omega) e.symm), if_neg (fun e => h 6 (by omega) (by omega) e.symm), if_neg (fun e => h 7 (by omega) (by omega) e.symm), if_neg (fun e => h 8 (by omega) (by omega) e.symm)]
def calledP (ws : List (List UInt8)) : Option (Int × List UInt8 × List UInt8) :=
  if opOf (ws.getD 0 []) = 0 then none
  else if opOf (ws.getD 0 []) = 2 then (if ws.length = 2 then (txt (ws.getD 1 [])).map (fun t => (2, [], t)) else none)
  else if opOf (ws.getD 0 []) = 1 ∨ opOf (ws.getD 0 []) = 5 ∨ opOf (ws.getD 0 []) = 6 then (if ws.length = 2 then (txt (ws.getD 1 [])).map (fun t => (opOf (ws.getD 0 []), t, [])) else none)
  else if ws.length = 1 then some (opOf (ws.getD 0 []), [], []) else none
def callA (op : Int) (nm dt : List UInt8) : Array Value := #[.int .i64 op, .string (str nm), .string (str dt)]
/-- how called ends -/
def CalledEnd (ws : List (List UInt8)) (e : Ending) : Prop := ∃ op nm dt, (nm.length ≤ 100000 ∧ dt.length ≤ 100000) ∧ ((e = .returned (.tuple #[.agg (callA op nm dt), .bool true]) ∧ calledP ws = some (op, nm, dt)) ∨ (e = .returned (.tuple #[.agg (callA op nm dt), .bool false]) ∧ calledP ws = none))
theorem txt_len (l t : List UInt8) (h : txt l = some t) : t.length ≤ l.length := by
  have key : ∀ (l t : List UInt8), txtGo l = some t → t.length ≤ l.length := by
    intro l
    induction l using txtGo.induct with
    | case1 a b r h =>
      intro t ht
      rw [txtGo, if_pos h] at ht
      cases ht
    | case2 a b r h ih =>
      intro t ht
      rw [txtGo, if_neg h, Option.map_eq_some_iff] at ht
      obtain ⟨u, hu, rfl⟩ := ht
      have := ih u hu
      simp
      omega
    | case3 l h =>
      intro t ht
      rw [txtGo] at ht
      · injection ht with ht
        subst ht
        simp
      · exact h
  unfold txt at h
  split at h
  · injection h with h
    subst h
    simp
  · split at h
    · cases h
    · exact key l t h
theorem info25 : (Tryd.prog.info? 41).map (·.size) = some 3 := by kernel_rfl
end Go.Proofs.YtjakkmioofbcaaaDoor
