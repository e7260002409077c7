/- The walk over the reference's commit. -/
import Derived.Test.YtadagidjppgbkaaR4
import Derived.Laws.AppendOwnNone
namespace Go.Proofs.Ytadagidjppgbkaa
open Go.RowKit Go.Maps Go.Sort
/-- the cells of a row of names -/
def rowsL (L : List Named) : List Value := L.flatMap fun x => [.string x.1, .string x.2]
theorem rowsL_length (L : List Named) : (rowsL L).length = L.length * 2 := by
  induction L with
  | nil => rfl
  | cons x l ih => simp [rowsL] at ih ⊢; omega
theorem rowsL_one (L : List Named) : ∀ v ∈ rowsL L, v.oneCell' = true := by
  intro v hv
  simp only [rowsL, List.mem_flatMap] at hv
  obtain ⟨x, _, hx⟩ := hv
  simp at hx
  rcases hx with rfl | rfl <;> rfl
theorem rowsL_append (a b : List Named) : rowsL (a ++ b) = rowsL a ++ rowsL b := by simp [rowsL]
theorem rowsL_get : ∀ (L : List Named) (i : Nat), (rowsL L)[i * 2]? = (L[i]?).map (fun x => Value.string x.1) ∧ (rowsL L)[i * 2 + 1]? = (L[i]?).map (fun x => Value.string x.2)
  | [], i => by simp [rowsL]
  | x :: l, 0 => by simp [rowsL]
  | x :: l, i + 1 => by
    have h := rowsL_get l i
    have e1 : (rowsL (x :: l))[(i + 1) * 2]? = (rowsL l)[i * 2]? := by
      show (List.flatMap _ (x :: l))[(i + 1) * 2]? = _
      rw [List.flatMap_cons, List.getElem?_append_right (by simp; omega)]
      simp [rowsL, show (i + 1) * 2 - 2 = i * 2 by omega]
    have e2 : (rowsL (x :: l))[(i + 1) * 2 + 1]? = (rowsL l)[i * 2 + 1]? := by
      show (List.flatMap _ (x :: l))[(i + 1) * 2 + 1]? = _
      rw [List.flatMap_cons, List.getElem?_append_right (by simp; omega)]
      simp [rowsL, show (i + 1) * 2 + 1 - 2 = i * 2 + 1 by omega]
    rw [e1, e2]
    simpa using h
/-- the cells that an append of a part of the row reads -/
theorem Nms.cells {w : World} {g b : Nat} {r o n : Nat} {L : List Named} (h : Nms w g b (some ⟨r, o, none⟩) n L) (p m : Nat) :
    ∀ j u, (rowsL ((L.drop p).take m))[j]? = some u → w.cell? ((⟨r, o + p * 2, none⟩ : Addr).add j) = some u := by
  intro j u hu
  rw [Addr.add_mid]
  have hg := rowsL_get ((L.drop p).take m) (j / 2)
  have hx : ∃ x, ((L.drop p).take m)[j / 2]? = some x := by
    have hj := (List.getElem?_eq_some_iff.1 hu).1
    rw [rowsL_length] at hj
    exact ⟨_, List.getElem?_eq_getElem (by omega)⟩
  obtain ⟨x, hx⟩ := hx
  have hx2 := hx
  rw [hx] at hg
  rw [List.getElem?_take] at hx2
  split at hx2
  · rw [List.getElem?_drop] at hx2
    obtain ⟨r', o', e, _, _, _, hc⟩ := h.2.2 (by have := (List.getElem?_eq_some_iff.1 hx2).1; have := h.1; omega)
    injection e with e
    injection e with e1 e2
    subst e1
    subst e2
    have hcc := hc _ x hx2
    rcases Nat.mod_two_eq_zero_or_one j with hm | hm
    · rw [show j = j / 2 * 2 by omega, hg.1] at hu
      rw [show o + p * 2 + j = o + (p + j / 2) * 2 by omega, hcc.1]
      simpa using hu
    · rw [show j = j / 2 * 2 + 1 by omega, hg.2] at hu
      rw [show o + p * 2 + j = o + (p + j / 2) * 2 + 1 by omega, hcc.2]
      simpa using hu
  · cases hx2
theorem info49 : (Try.prog.info? 49).map (fun i => (i.zero, i.size, i.bytes)) = some (some (.agg #[.string ByteArray.empty, .string ByteArray.empty]), 2, 32) := by kernel_rfl
def lessN (nm : ByteArray) (x : Named) : Bool := Op.bytesLess x.1.toList nm.toList
/-- a name is laid where it belongs -/
def insN (L : List Named) (nm da : ByteArray) : List Named := L.takeWhile (lessN nm) ++ [(nm, da)] ++ L.dropWhile (lessN nm)
theorem ins_at {L : List Named} {nm da : ByteArray} {k : Nat} (h1 : ∀ x ∈ L.take k, lessN nm x = true) (h2 : ∀ x, L[k]? = some x → lessN nm x = false) : insN L nm da = L.take k ++ [(nm, da)] ++ L.drop k := by
  have e : L = L.take k ++ L.drop k := (List.take_append_drop k L).symm
  have ht : L.takeWhile (lessN nm) = L.take k ∧ L.dropWhile (lessN nm) = L.drop k := by
    have hd : (L.drop k).takeWhile (lessN nm) = [] ∧ (L.drop k).dropWhile (lessN nm) = L.drop k := by
      cases hq : L.drop k with
      | nil => simp
      | cons y l =>
        have : L[k]? = some y := by
          have := congrArg (·[0]?) hq
          simpa [List.getElem?_drop] using this
        have hy := h2 y this
        simp [List.takeWhile, List.dropWhile, hy]
    constructor
    · conv => lhs; rw [e]
      rw [List.takeWhile_append_of_pos h1, hd.1, List.append_nil]
    · conv => lhs; rw [e]
      rw [List.dropWhile_append_of_pos h1, hd.2]
  rw [insN, ht.1, ht.2]
section
variable {P : Program}
/-- an append of whatever there is: of nothing that was never made, too -/
theorem wpList_append_own_any {w : World} {ops : Array Oper} {rest : List Oper} {o : Oper} {a : Act} {Q : Exit → Act → World → Prop} (hgd : o.guard = none) (s x : Operand) (t : TypeId)
    (ho : o.op = .call { callee := .builtin .append, args := #[s, x], argTypes := #[t, t] })
    (base : Nat) (e : TypeId) (i : TypeInfo) (z : Value) (size bytes : Nat) (ht : P.underlying t = some (.slice e)) (hi : P.info? e = some i) (hz : i.zero = some z)
    (hsize : i.size = size) (hby : i.bytes = bytes) (hzs : z.cells.size = size) (hsz : 0 < size)
    (v : Value) (n : Nat) (xs : List Value) (hs : a.eval s = v) (hown : w.ownsRow base e size v n xs)
    (A : Option Addr) (m c : Nat) (news : List Value) (hx : a.eval x = .slice A m c) (hl : news.length = m * size) (hA : A = none → m = 0 ∧ c = 0) (hnews : ∀ ad, A = some ad → ∀ j u, news[j]? = some u → w.cell? (ad.add j) = some u) (h1 : ∀ u ∈ news, u.oneCell' = true)
    (h63 : n + m ≤ maxLen) (hbytes : (n + m) * bytes ≤ 140737488355328) (hbase : base ≤ w.heap.size)
    (h : ∀ v' w', w'.ownsRow base e size v' (n + m) (xs ++ news) → w.grownBy w' v.ownBlock → (v' = .slice none 0 0 ↔ v = .slice none 0 0 ∧ m = 0) → wpList P ops Q rest (a.put o.dst v') w') : wpList P ops Q (o :: rest) a w := by
  cases A with
  | none =>
    obtain ⟨rfl, rfl⟩ := hA rfl
    have hn : news = [] := List.eq_nil_of_length_eq_zero (by simpa using hl)
    subst hn
    exact wpList_append_own_none hgd s x t ho base e i size ht hi v n xs hs hown hx (h v w (by simpa using hown) ⟨rfl, rfl, rfl, Nat.le_refl _, fun _ _ _ => rfl⟩ (by simp))
  | some ad => exact wpList_append_own w hgd s x t ho base e i z size bytes ht hi hz hsize hby hzs hsz v n xs hs hown ad m c news hx hl (hnews ad rfl) h1 h63 hbytes hbase h
end
end Go.Proofs.Ytadagidjppgbkaa
