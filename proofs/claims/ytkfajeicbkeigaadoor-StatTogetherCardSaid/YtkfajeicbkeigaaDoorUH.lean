/- What the reference counts is what the program counts. -/
import Derived.Test.YtkfajeicbkeigaaDoorUF
namespace Go.Proofs.YtkfajeicbkeigaaDoor
open Go.RowKit Go.Maps
theorem gains_same {us : List Us} (h : chk (cnt us) = 0) (ns : List Nm) :
    sumT (pl (prs (cnt us))) (fun p => byB (cnt us) p ns) (pl (prs (cnt us))).length = totF us fun l => allIn l ns := by
  rw [totF_yes h]
  exact sumT_congr (fun c hc => byB_eq (List.mem_map.2 ⟨c, hc, rfl⟩)) _
theorem both_same {us : List Us} (h : chk (cnt us) = 0) (s u : Nm) :
    sumT (pl (prs (cnt us))) (fun p => hasB (cnt us) s p && hasB (cnt us) u p) (pl (prs (cnt us))).length = totF us fun l => decide (s ∈ l) && decide (u ∈ l) := by
  rw [totF_yes h]
  exact sumT_congr (fun c hc => by rw [hasB_eq, hasB_eq]) _
theorem whole_same {us : List Us} (h : chk (cnt us) = 0) :
    sumT (pl (prs (cnt us))) (fun _ => true) (pl (prs (cnt us))).length = totF us fun _ => true := by rw [totF_yes h]
theorem long_same {us : List Us} (h : chk (cnt us) = 0) : lsum (prs (cnt us)) (prs (cnt us)) = longF us := (longF_yes h).symm
theorem key_same {us : List Us} (h : chk (cnt us) = 0) : keyR (cnt us) = keyF us := by
  funext s
  unfold keyR keyF
  exact gains_same h [s]
theorem order_same {us : List Us} (h : chk (cnt us) = 0) : ord (keyR (cnt us)) (nmsU (cnt us)) = orderL us := by
  unfold orderL
  rw [if_pos h, key_same h]
theorem none_order {us : List Us} (h : chk (cnt us) = 1) : orderL us = [] := if_neg (by rw [h]; decide)
theorem none_sav {us : List Us} (h : chk (cnt us) = 1) : savN us = (0, 1) := by unfold savN; rw [if_pos (longF_no h)]
/-- what is saved, as the reference's share -/
theorem sav_some {us : List Us} (h : longF us ≠ 0) : savN us = ((longF us - totF us fun _ => true).toNat / Nat.gcd (longF us - totF us fun _ => true).toNat (longF us).toNat, (longF us).toNat / Nat.gcd (longF us - totF us fun _ => true).toNat (longF us).toNat) := by
  unfold savN
  rw [if_neg h]
theorem sav_zero {us : List Us} (h : longF us = 0) : savN us = (0, 1) := by unfold savN; rw [if_pos h]
end Go.Proofs.YtkfajeicbkeigaaDoor
