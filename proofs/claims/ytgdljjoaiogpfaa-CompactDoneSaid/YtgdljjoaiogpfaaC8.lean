/- The walks over Live and Dead. -/
import Derived.Test.YtgdljjoaiogpfaaC7
import Derived.Laws.AppendOwnNone
namespace Go.Proofs.Ytgdljjoaiogpfaa
open Go.RowKit Go.Maps
attribute [local go_sem] Oper.semAt_some
structure InOk (w : World) (A : Option Addr) (n : Nat) (hs : List Hd) (B : Option Addr) (m : Nat) (named : List Plc) : Prop where
  hd : Hds w A n hs
  lim : Lim hs
  ids : ∀ h ∈ hs, (Lit.int .u32 h.id).wf = true
  pl : Pls w B m named
  ok : ∀ p ∈ named, PlcOk p
  mm : m ≤ 1000
theorem InOk.below {w w' : World} {A : Option Addr} {n : Nat} {hs : List Hd} {B : Option Addr} {m : Nat} {named : List Plc} (h : InOk w A n hs B m named) (hb : Below w.heap.size w w') : InOk w' A n hs B m named :=
  ⟨h.hd.below hb, h.lim, h.ids, h.pl.below hb, h.ok, h.mm⟩
theorem parts_in {w : World} {A : Option Addr} {n c : Nat} {hs : List Hd} {B : Option Addr} {m d : Nat} {named : List Plc} (h : InOk w A n hs B m named) {V : World} (hV : Below w.heap.size w V) :
    Calls Try.prog 29 #[.slice A n c, .slice B m d] V fun e w' => ∃ b1 b2, e = .returned (.func (.func 35) #[] #[.pointer (some ⟨b1, 0, none⟩), .pointer (some ⟨b2, 0, none⟩)]) ∧ Below V.heap.size V w' ∧
      Yields Try.prog 35 #[.pointer (some ⟨b1, 0, none⟩), .pointer (some ⟨b2, 0, none⟩)] PV.val (Ex named) (Xp w.heap.size V.heap.size w'.heap.size) (okHs hs) w' := by
  refine (parts29 (A := A) (n := n) (c := c) (h.pl.below hV) h.ok h.mm).mono ?_
  rintro e w' ⟨b1, b2, rfl, hb, hi⟩
  exact ⟨b1, b2, rfl, hb, parts35 h.hd h.lim h.ids h.ok ((below_old hV).trans (below_old hb)) hi (Nat.le_refl _)⟩
theorem xp_lt {n0 n1 n2 : Nat} (h0 : n0 ≤ n1) (h1 : n1 ≤ n2) {b : Nat} (h : Xp n0 n1 n2 b) : b < n2 := by rcases h with h | h <;> omega
theorem okHs_len {hs : List Hd} (h : Lim hs) : (okHs hs).length ≤ 1000 ∧ ∀ x ∈ okHs hs, x.n ≤ 1000 := by
  unfold okHs
  split
  · exact h
  · simp
/-- the slots of all boxes -/
def allP (named : List Plc) (live : Bool) (hs : List Hd) : List Plc := hs.flatMap fun h => part named h live
theorem allP_snoc (named : List Plc) (live : Bool) (hs : List Hd) (x : Hd) : allP named live (hs ++ [x]) = allP named live hs ++ part named x live := by simp [allP]
theorem allP_len (named : List Plc) (live : Bool) : ∀ (hs : List Hd), (∀ x ∈ hs, x.n ≤ 1000) → (allP named live hs).length ≤ 1000 * hs.length
  | [], _ => by simp [allP]
  | x :: r, h => by
    have ih := allP_len named live r (fun y hy => h y (by simp [hy]))
    have h1 := partTo_len named x live x.n
    have h2 := h x (by simp)
    have e : (allP named live (x :: r)).length = (part named x live).length + (allP named live r).length := by simp [allP]
    rw [e]
    unfold part
    simp only [List.length_cons]
    omega
theorem rowP_append (l k : List Plc) : rowP (l ++ k) = rowP l ++ rowP k := by simp [rowP]
theorem rowP_len (l : List Plc) : (rowP l).length = l.length * 2 := by
  induction l with
  | nil => rfl
  | cons x r ih => simp [rowP] at ih ⊢; omega
theorem rowP_one (l : List Plc) : ∀ u ∈ rowP l, u.oneCell' = true := by
  intro u hu
  simp only [rowP, List.mem_flatMap] at hu
  obtain ⟨p, _, hp⟩ := hu
  simp at hp
  rcases hp with rfl | rfl <;> simp [Value.oneCell']
theorem rowP_at : ∀ (l : List Plc) (j : Nat) (u : Value), (rowP l)[j]? = some u → ∃ p, l[j / 2]? = some p ∧ ((j % 2 = 0 ∧ u = .int .u32 p.1) ∨ (j % 2 = 1 ∧ u = .int .i64 p.2)) := by
  intro l j u h
  have hj := (List.getElem?_eq_some_iff.1 h).1
  rw [rowP_len] at hj
  obtain ⟨p, hp⟩ : ∃ p, l[j / 2]? = some p := ⟨l[j / 2]'(by omega), by simp⟩
  obtain ⟨r1, r2⟩ := rowP_get l _ p hp
  refine ⟨p, hp, ?_⟩
  rcases Nat.mod_two_eq_zero_or_one j with h0 | h0
  · rw [show j / 2 * 2 = j by omega, h] at r1
    exact .inl ⟨h0, by simpa using r1⟩
  · rw [show j / 2 * 2 + 1 = j by omega, h] at r2
    exact .inr ⟨h0, by simpa using r2⟩
theorem Pls.news {W : World} {A : Option Addr} {n : Nat} {l : List Plc} (h : Pls W A n l) : ∀ ad, A = some ad → ∀ j u, (rowP l)[j]? = some u → W.cell? (ad.add j) = some u := by
  intro ad hA j u hu
  obtain ⟨p, hp, hq⟩ := rowP_at l j u hu
  obtain ⟨b, o, e, c1, c2⟩ := h.get hp
  rw [e] at hA
  cases hA
  have ha : (⟨b, o, none⟩ : Addr).add j = ⟨b, o + j, none⟩ := by
    by_cases h0 : j = 0
    · subst h0; rfl
    · simp [Addr.add, h0]
  rw [ha]
  rcases hq with ⟨h0, rfl⟩ | ⟨h0, rfl⟩
  · rw [show o + j = o + j / 2 * 2 by omega]; exact c1
  · rw [show o + j = o + j / 2 * 2 + 1 by omega]; exact c2
/-- an append of whatever there is, of nothing that was never made too, in a round -/
theorem wpListIn_append_any {F : Fence} {nF : Nat} {P : Program} {w : World} {ops : Array Oper} {rest : List Oper} {o : Oper} {a : Act} {Q : Exit → Act → World → Prop} (hgd : o.guard = none) (s x : Operand) (t : TypeId)
    (ho : o.op = .call { callee := .builtin .append, args := #[s, x], argTypes := #[t, t] })
    (base : Nat) (e : TypeId) (i : TypeInfo) (z : Value) (size bytes : Nat) (ht : P.underlying t = some (.slice e)) (hi : P.info? e = some i) (hz : i.zero = some z)
    (hsize : i.size = size) (hby : i.bytes = bytes) (hzs : z.cells.size = size) (hsz : 0 < size)
    (v : Value) (n : Nat) (xs : List Value) (hs : a.eval s = v) (hown : w.ownsRow base e size v n xs)
    (A : Option Addr) (m c : Nat) (news : List Value) (hx : a.eval x = .slice A m c) (hl : news.length = m * size) (hA : A = none → m = 0 ∧ c = 0) (hnews : ∀ ad, A = some ad → ∀ j u, news[j]? = some u → w.cell? (ad.add j) = some u) (h1 : ∀ u ∈ news, u.oneCell' = true)
    (h63 : n + m ≤ maxLen) (hbytes : (n + m) * bytes ≤ 140737488355328) (hbase : base ≤ w.heap.size)
    (h : ∀ v' w', w'.ownsRow base e size v' (n + m) (xs ++ news) → w.grownBy w' v.ownBlock → wpListIn F nF P ops Q rest (a.put o.dst v') w') : wpListIn F nF P ops Q (o :: rest) a w := by
  cases A with
  | none =>
    obtain ⟨rfl, rfl⟩ := hA rfl
    have hn : news = [] := List.eq_nil_of_length_eq_zero (by simpa using hl)
    subst hn
    refine wpListIn_plain hgd fun K hK => ?_
    have hrun := run_append_owned_none (P := P) (w := w) base t o.type e i size ht hi v n xs hown
    unfold Oper.wpIn
    refine ⟨by simp [Oper.about, ho, resolve, Target.leads, Sem.run_pure], ?_⟩
    rw [Oper.semAt_plain F _ _ (by rw [ho]; intro c hc'; cases hc')]
    simp [execOp, ho, resolve, invoke, builtin, hs, hx, hrun, Result.andThen]
    exact hK _ _ (h v w (by simpa using hown) ⟨rfl, rfl, rfl, Nat.le_refl _, fun _ _ _ => rfl⟩)
  | some ad => exact wpListIn_append_own w hgd s x t ho base e i z size bytes ht hi hz hsize hby hzs hsz v n xs hs hown ad m c news hx hl (hnews ad rfl) h1 h63 hbytes hbase (fun v' w' r1 r2 _ => h v' w' r1 r2)
end Go.Proofs.Ytgdljjoaiogpfaa
