/- The walk over the law's awake. -/
import Derived.Test.YtgdljjoaiogpfaaC18
import Derived.Test.YtgdljjoaiogpfaaC13
namespace Go.Proofs.Ytgdljjoaiogpfaa
open Go.RowKit Go.Maps
def x0 (bs : Nat) : Hd := ⟨4, some ⟨bs, 0, none⟩, 3, 3, [(5, 0), (5, 0), (5, 0)]⟩
def hs0 (bs : Nat) : List Hd := [x0 bs]
def nm0 : List Plc := [(4, 1)]
theorem may0 (bs : Nat) : May (hs0 bs) := by
  intro j
  refine ⟨fun h g h1 h2 h3 => ?_, fun h h1 s hs => ?_⟩
  · have := (List.getElem?_eq_some_iff.1 h1).1
    simp [hs0] at this
    omega
  · have := List.mem_of_getElem? h1
    simp [hs0] at this
    subst this
    simp [x0] at hs
    subst hs
    exact ⟨by decide, by decide⟩
theorem ok0 (bs : Nat) : okHs (hs0 bs) = hs0 bs := okHs_yes (may0 bs)
theorem part0t (bs : Nat) : part nm0 (x0 bs) true = [(4, 1)] := by simp [part, x0, partTo, nm0]
theorem part0f (bs : Nat) : part nm0 (x0 bs) false = [(4, 0), (4, 2)] := by simp [part, x0, partTo, nm0]
theorem bytes0t (bs : Nat) : bytes nm0 (x0 bs) true = 5 := by simp [bytes, x0, bytesTo, nm0, lenAt]
theorem bytes0f (bs : Nat) : bytes nm0 (x0 bs) false = 10 := by simp [bytes, x0, bytesTo, nm0, lenAt]
theorem sum0 (bs : Nat) : sumB nm0 true (okHs (hs0 bs)) = 5 ∧ sumB nm0 false (okHs (hs0 bs)) = 10 := by
  rw [ok0]
  simp [sumB, hs0, bytes0t, bytes0f]
theorem mix0 (bs : Nat) : isMixed nm0 (x0 bs) = true := by simp [isMixed, part0t, part0f]
theorem pick0 (bs : Nat) : (pick isMixed nm0 (okHs (hs0 bs))).length = 1 := by
  rw [ok0]
  simp [pick, hs0, mix0]
theorem by0 (bs : Nat) : succTo (byAll nm0 (okHs (hs0 bs))) [4] 1 = [(4, 1)] := by
  rw [ok0]
  simp [succTo, byAll, hs0, part0t, show (x0 bs).id = 4 from rfl]
theorem grp0 (bs : Nat) : (gfold nm0 1 1 (okHs (hs0 bs))).1.length = 1 := by
  rw [ok0]
  simp [gfold, hs0, gstep, mix0]
theorem done0 (bs : Nat) : doneB nm0 (hs0 bs) = false := doneB_no fun h => by
  have := (h.2 (x0 bs) (by simp [hs0])).1
  rw [part0f] at this
  simp at this
theorem chk0 (bs : Nat) : chk (hs0 bs) = 0 := chk_ok (may0 bs)
end Go.Proofs.Ytgdljjoaiogpfaa
