/- Two results, each a variable of its own: what is handed back. -/
import Derived.Test.YtadagidjppgbkaaR7
namespace Go.Proofs.Ytadagidjppgbkaa
open Go.RowKit Go.Maps Go.Sort
theorem results_cells2 {P : Program} {fn : Func} {p q : Tmp} {tp tq : TypeId} (h : fn.results = #[.cell p tp, .cell q tq]) (tmps : Array Value) (w : World) (gp gq : Nat) (ep eq_ : TypeId) (cp cq : Array Value) (fp fq : Nat × Nat) (dp dq : TypeDesc)
    (hp : tmps.getD p undef = .pointer (some ⟨gp, 0, none⟩)) (hq : tmps.getD q undef = .pointer (some ⟨gq, 0, none⟩)) (hgp : w.heap[gp]? = some (.cells cp ep fp)) (hgq : w.heap[gq]? = some (.cells cq eq_ fq))
    (hup : P.underlying tp = some dp) (huq : P.underlying tq = some dq) (hdp : (match dp with | .struct _ | .array _ _ => true | _ => false) = true) (hdq : (match dq with | .struct _ | .array _ _ => true | _ => false) = true)
    (hip : (P.info? tp).map (·.size) = some cp.size) (hiq : (P.info? tq).map (·.size) = some cq.size) :
    (results fn tmps).run P w = .ok (.tuple #[.agg cp, .agg cq]) w := by
  have hp' : tmps[p]?.getD undef = .pointer (some ⟨gp, 0, none⟩) := by simpa using hp
  have hq' : tmps[q]?.getD undef = .pointer (some ⟨gq, 0, none⟩) := by simpa using hq
  simp [results, h, hp', hq', asAddr, Sem.run_bind, Result.andThen, run_loadVar_row w gp ep tp cp fp dp hgp hup hdp hip, run_loadVar_row w gq eq_ tq cq fq dq hgq huq hdq hiq]
end Go.Proofs.Ytadagidjppgbkaa
