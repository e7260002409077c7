/- The walks over the reference's All and mixed. -/
import Derived.Test.YtgdljjoaiogpfaaR2
namespace Go.Proofs.Ytgdljjoaiogpfaa
open Go.RowKit Go.Maps
/-- an append of whatever there is, of nothing that was never made too -/
theorem wpList_append_any {P : Program} {w : World} {ops : Array Oper} {rest : List Oper} {o : Oper} {a : Act} {Q : Exit → Act → World → Prop} (hgd : o.guard = none) (s x : Operand) (t : TypeId)
    (ho : o.op = .call { callee := .builtin .append, args := #[s, x], argTypes := #[t, t] })
    (base : Nat) (e : TypeId) (i : TypeInfo) (z : Value) (size bytes : Nat) (ht : P.underlying t = some (.slice e)) (hi : P.info? e = some i) (hz : i.zero = some z)
    (hsize : i.size = size) (hby : i.bytes = bytes) (hzs : z.cells.size = size) (hsz : 0 < size)
    (v : Value) (n : Nat) (xs : List Value) (hs : a.eval s = v) (hown : w.ownsRow base e size v n xs)
    (A : Option Addr) (m c : Nat) (news : List Value) (hx : a.eval x = .slice A m c) (hl : news.length = m * size) (hA : A = none → m = 0 ∧ c = 0) (hnews : ∀ ad, A = some ad → ∀ j u, news[j]? = some u → w.cell? (ad.add j) = some u) (h1 : ∀ u ∈ news, u.oneCell' = true)
    (h63 : n + m ≤ maxLen) (hbytes : (n + m) * bytes ≤ 140737488355328) (hbase : base ≤ w.heap.size)
    (h : ∀ v' w', w'.ownsRow base e size v' (n + m) (xs ++ news) → w.grownBy w' v.ownBlock → wpList P ops Q rest (a.put o.dst v') w') : wpList P ops Q (o :: rest) a w := by
  cases A with
  | none =>
    obtain ⟨rfl, rfl⟩ := hA rfl
    have hn : news = [] := List.eq_nil_of_length_eq_zero (by simpa using hl)
    subst hn
    exact wpList_append_own_none hgd s x t ho base e i size ht hi v n xs hs hown hx (h v w (by simpa using hown) ⟨rfl, rfl, rfl, Nat.le_refl _, fun _ _ _ => rfl⟩)
  | some ad => exact wpList_append_own w hgd s x t ho base e i z size bytes ht hi hz hsize hby hzs hsz v n xs hs hown ad m c news hx hl (hnews ad rfl) h1 h63 hbytes hbase (fun v' w' r1 r2 _ => h v' w' r1 r2)
theorem allP_take (named : List Plc) (live : Bool) {hs : List Hd} {k : Nat} {x : Hd} (hx : hs[k]? = some x) : allP named live (hs.take (k + 1)) = allP named live (hs.take k) ++ part named x live := by
  rw [List.take_add_one, hx]
  exact allP_snoc named live (hs.take k) x
set_option maxRecDepth 100000 in
set_option maxHeartbeats 2000000 in
theorem all26 {w : World} {A : Option Addr} {n c : Nat} {hs : List Hd} {B : Option Addr} {m d : Nat} {named : List Plc} (h : InOk w A n hs B m named) (live : Bool) :
    Calls Try.prog 26 #[.slice A n c, .slice B m d, .bool live] w fun e w' => ∃ v, e = .returned v ∧ Below w.heap.size w w' ∧ w'.ownsRow w.heap.size 39 2 v (allP named live hs).length (rowP (allP named live hs)) := by
  have H := Lib.hid h.hd
  have HLM := Lib.hid h.lim
  have HN : Hid (n ≤ 1000) := by have := h.lim.1; rw [h.hd.len] at this; exact this
  have HCALL : Hid (∀ V, Below w.heap.size w V → ∀ x : Hd, x.n ≤ 1000 → Calls Try.prog 16 #[.agg #[.int .u32 x.id, .slice x.A x.n x.c], .slice B m d, .bool live] V fun e w' => ∃ v, e = .returned v ∧ Below V.heap.size V w' ∧ w'.ownsRow V.heap.size 39 2 v (part named x live).length (rowP (part named x live))) := Lib.hid (fun V hV x hx => part16 (h.pl.below hV) h.mm x hx live)
  clear h
  obtain ⟨i0, hi, hz0, hz1, hz2⟩ := info_parts info39
  have I0 := Lib.hid hi
  have Z0 := Lib.hid hz0
  have S0 := Lib.hid hz1
  have Y0 := Lib.hid hz2
  clear hi hz0 hz1 hz2
  go_enter Try.func26, Try.ntmps26
  go_wp2_with fail
  go_loopg [7, 8] n (fun gk v i wr => ∃ k : Nat, k ≤ n ∧ gk = n - k ∧ i = .int .i64 k ∧ Below w.heap.size w wr ∧ wr.ownsRow w.heap.size 39 2 v (allP named live (hs.take k)).length (rowP (allP named live (hs.take k))))
  case atStart => exact ⟨0, Nat.zero_le _, rfl, rfl, Below.refl _ _, World.ownsRow_nil _ _ _ _⟩
  case round =>
    obtain ⟨k, hk, hgk, rfl, hb, hr⟩ := hrel
    obtain ⟨AA, ac, hv⟩ := own_slice hr
    subst hv
    have HK := Lib.hid hgk
    have HB := Lib.hid hb
    have HR := Lib.hid hr
    have HN' := HN.out
    clear hgk hb hr
    by_cases hlt : k < n
    · obtain ⟨x, hx⟩ : ∃ x, hs[k]? = some x := ⟨hs[k]'(by rw [H.out.len]; exact hlt), by simp⟩
      obtain ⟨b, o, rfl, c1, c2⟩ := (H.out.below HB.out).get hx
      have hk0 : (0 : Int) ≤ (k : Int) := by omega
      have hk1 : (k : Int) < (n : Int) := by omega
      have hxl : x.n ≤ 1000 := HLM.out.2 x (List.mem_of_getElem? hx)
      have HCL := Lib.hid (HCALL.out wr HB.out x hxl)
      have HTK := Lib.hid (allP_take named live hx)
      have HL1 : Hid ((allP named live (hs.take k)).length ≤ 1000000) := Lib.hid (by
        have q := allP_len named live (hs.take k) (fun t ht => HLM.out.2 t (List.mem_of_mem_take ht))
        have : (hs.take k).length ≤ k := by simp; omega
        omega)
      have HL2 : Hid ((part named x live).length ≤ 1000) := Lib.hid (Nat.le_trans (partTo_len named x live x.n) hxl)
      clear hx hxl
      go_wp2_with fail
      refine Calls.mono HCL.out ?_
      rintro e w1 ⟨v2, rfl, hb1, hr2⟩
      obtain ⟨A2, ac2, hv2, hz⟩ := own_slice2 hr2
      subst hv2
      have HZ := Lib.hid hz
      have HP2 := Lib.hid (Pls.own hr2 rfl)
      have HB1 := Lib.hid hb1
      have HR1 := Lib.hid (HR.out.kept (grown_of_below hb1) (by rcases hoo : Value.ownBlock (.slice AA (allP named live (hs.take k)).length ac) with _ | g <;> simp))
      have HBW : Hid (Below w.heap.size w w1) := Lib.hid (HB.out.trans (hb1.mono HB.out.size))
      clear hz hr2 hb1 HCL HCALL
      go_wp2_with (first
        | (at_builtin; refine wpList_append_any rfl (.tmp 15) (.tmp 22) _ rfl w.heap.size 39 i0 _ 2 16 Try.underlying23 I0.out Z0.out S0.out Y0.out rfl (by decide) _ _ _ rfl HR1.out _ _ _ (rowP (part named x live)) rfl (rowP_len _) HZ.out HP2.out.news (rowP_one _) (by have := HL1.out; have := HL2.out; simp only [maxLen]; omega) (by have := HL1.out; have := HL2.out; omega) HBW.out.size ?_))
      intro v' w2 hown' hgrow
      obtain ⟨A3, ac3, hv3⟩ := own_slice hown'
      subst hv3
      go_wp2
      go_roundg (n - (k + 1))
      case measure => rw [HK.out]; omega
      case rel =>
        refine ⟨k + 1, by omega, rfl, by go_num, HBW.out.grown hgrow HBW.out.size (fun j e => (HR1.out.lt j e).1), ?_⟩
        rw [HTK.out, rowP_append, List.length_append]
        exact hown'
    · have HT : Hid (hs.take k = hs) := Lib.hid (List.take_of_length_le (by rw [H.out.len]; omega))
      go_wp2
      go_ret
      exact ⟨_, rfl, HB.out, (by have q := HR.out; rw [HT.out] at q ⊢; exact q)⟩
end Go.Proofs.Ytgdljjoaiogpfaa
