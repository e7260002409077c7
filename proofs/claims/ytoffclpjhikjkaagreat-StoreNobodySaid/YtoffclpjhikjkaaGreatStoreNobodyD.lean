/- Closed facts of StoreNobody together. -/
import Derived.Test.YtoffclpjhikjkaaGreatStoreNobodyB
import Derived.Test.YtoffclpjhikjkaaGreatStoreNobodyC
import Derived.JoinedOf
namespace Go.Proofs.YtoffclpjhikjkaaGreat.storeNobody
theorem ands {a b : Bool} (ha : a = true) (hb : b = true) : (a && b) = true := by rw [ha, hb]; rfl
theorem c_fn : Tryz.pinned.checked.prog.funcNamed Rows.storeNobodyRow.func = some 3 := by kernel_rfl
set_option maxHeartbeats 8000000 in
theorem closed : joinedFacts Tryz.pinned.checked.prog 3 Tryz.f3 Rows.storeNobodySpec Rows.storeNobodyRow = true := by
  unfold joinedFacts
  repeat' (with_reducible refine ands ?_ ?_)
  all_goals first
    | with_reducible exact c_inPlace
    | with_reducible exact c_unf
    | with_reducible exact c_rec
    | with_reducible exact c_named
    | (as_aux_lemma => kernel_rfl)
end Go.Proofs.YtoffclpjhikjkaaGreat.storeNobody
