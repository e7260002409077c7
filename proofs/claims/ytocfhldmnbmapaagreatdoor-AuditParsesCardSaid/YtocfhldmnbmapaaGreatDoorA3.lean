/- The walks over the reference's May, the words of kinds. -/
import Derived.Test.YtocfhldmnbmapaaGreatDoorA2
import Derived.Test.YtocfhldmnbmapaaGreatDoorShelf
import Derived.Lib.ItoaMem
import Derived.Lib.AppendIntMem
namespace Go.Proofs.YtocfhldmnbmapaaGreatDoor
open Go.RowKit
theorem own_slice {w : World} {base n e size : Nat} {v : Value} {xs : List Value} (h : w.ownsRow base e size v n xs) : ∃ A c, v = .slice A n c := by
  rcases h.2 with ⟨rfl, rfl⟩ | ⟨g, cap, cur, rfl, _⟩
  · exact ⟨none, 0, rfl⟩
  · exact ⟨_, cap, rfl⟩
theorem grown_of_below {A B : World} (h : Below A.heap.size A B) : A.grownBy B none := ⟨h.os, h.tape, h.output, h.size, fun k hk _ => h.block k hk⟩
theorem own_below {w w' : World} {base n e size : Nat} {v : Value} {xs : List Value} (h : w.ownsRow base e size v n xs) (hb : Below w.heap.size w w') : w'.ownsRow base e size v n xs :=
  h.kept (grown_of_below hb) (by rcases hoo : v.ownBlock with _ | g <;> simp)
theorem info_parts {P : Program} {t : TypeId} {z : Option Value} {s b : Nat} (h : (P.info? t).map (fun i => (i.zero, i.size, i.bytes)) = some (z, s, b)) : ∃ i, P.info? t = some i ∧ i.zero = z ∧ i.size = s ∧ i.bytes = b := by
  cases hi : P.info? t with
  | none => rw [hi] at h; cases h
  | some i =>
    rw [hi] at h
    injection h with h
    injection h with h1 h
    injection h with h2 h3
    exact ⟨i, rfl, h1, h2, h3⟩
theorem info5 : (Tryz.prog.info? 5).map (fun i => (i.zero, i.size, i.bytes)) = some (some (.int .u8 0), 1, 1) := by kernel_rfl
def bytesV (l : List UInt8) : List Value := l.map fun b => .int .u8 (b.toNat : Int)
theorem bytesV_append (a b : List UInt8) : bytesV (a ++ b) = bytesV a ++ bytesV b := by simp [bytesV]
theorem bytesV_len (a : List UInt8) : (bytesV a).length = a.length := by simp [bytesV]
theorem strOf (l : List UInt8) : strOfNums (l.map fun b => (b.toNat : Int)) = str l := by
  have h : (l.map fun b => (b.toNat : Int)).map (fun n => UInt8.ofNat n.toNat) = l := by
    rw [List.map_map]
    exact (List.map_congr_left (fun b _ => by simp)).trans (List.map_id l)
  unfold strOfNums str
  rw [h]
theorem conv_own {w : World} {base : Nat} {v : Value} {l : List UInt8} (h : w.ownsRow base 5 1 v l.length (bytesV l)) : (convert 74 9 v).run Tryz.prog w = .ok (.string (str l)) w := by
  rcases h.2 with ⟨rfl, h0⟩ | ⟨g, cap, cur, rfl, hb, hr, hc, hm, hs, ht⟩
  · have : l = [] := List.length_eq_zero_iff.1 h0
    subst this
    exact run_convert_bytes_nil w 74 5 Tryz.underlying74 Tryz.underlying5 0 0 9 Tryz.underlying9
  · rw [← strOf l]
    refine run_convert_bytes_arg (P := Tryz.prog) w 74 5 Tryz.underlying74 Tryz.underlying5 g 0 l.length cap _ (by simp) (fun i hi => ?_) 9 Tryz.underlying9
    rw [Nat.zero_add, h.cellAt i (by omega)]
    simp [bytesV, List.getD, hi]
theorem new1 (W : World) (a : Value) (t : TypeId) (g : Nat) (hg : g = W.heap.size) : ∀ j u, [a][j]? = some u → (W.alloc (.cells #[a] t)).cell? ((⟨g, 0, none⟩ : Addr).add j) = some u := by
  intro j u hj
  subst hg
  match j, hj with
  | 0, hj => simp at hj; subst hj; simp [Addr.add]
theorem str_get (l : List UInt8) (k : Nat) (h : k < l.length) (h' : k < (str l).size) : (str l)[k]'h' = l[k]'h := rfl
theorem drop_at (l : List UInt8) (k : Nat) (h : k < l.length) : l.drop k = l[k]'h :: l.drop (k + 1) := by rw [List.drop_eq_getElem_cons h]
theorem str_beq (a b : List UInt8) : ((str a).toList == (str b).toList) = decide (a = b) := by
  rw [str_toList, str_toList, Bool.eq_iff_iff]; simp
/-- what the library's variables hold -/
structure Gw (w : World) : Prop where
  lt : 8 ≤ w.heap.size
  ml : ∃ m, w.cell? ⟨1, 0, none⟩ = some (.int .i64 m)
  es : ∃ t p, w.cell? ⟨2, 0, none⟩ = some (.iface t p)
  er : ∃ t p, w.cell? ⟨3, 0, none⟩ = some (.iface t p)
  tb : Lib.TabIs Tryz.prog w "internal/strconv.uint64pow10" .u64 Lib.pow10Tab
theorem Gw.below {w w' : World} (h : Gw w) (hb : Below w.heap.size w w') : Gw w' where
  lt := Nat.le_trans h.lt hb.size
  ml := by obtain ⟨m, q⟩ := h.ml; exact ⟨m, (hb.cell (p := ⟨1, 0, none⟩) (Nat.lt_of_lt_of_le (by decide) h.lt)).trans q⟩
  es := by obtain ⟨m, p, q⟩ := h.es; exact ⟨m, p, (hb.cell (p := ⟨2, 0, none⟩) (Nat.lt_of_lt_of_le (by decide) h.lt)).trans q⟩
  er := by obtain ⟨m, p, q⟩ := h.er; exact ⟨m, p, (hb.cell (p := ⟨3, 0, none⟩) (Nat.lt_of_lt_of_le (by decide) h.lt)).trans q⟩
  tb := Lib.tabBelow_of_tabIs h.tb w' hb
theorem setRow_grown (w : World) (g : Nat) (cs : Array Value) : w.grownBy (w.setRow g cs) (some g) := ⟨rfl, rfl, rfl, by simp, fun k _ hne => setRow_other w g k cs (fun e => hne (by rw [e]))⟩
def kindsA : Array Value := (wordsL.map fun x => Value.string (str x)).toArray
section
variable {P : Program}
theorem run_build_of {op : Oper} {a : Go.Act} {w : World} (t : TypeId) (parts : Array (Nat × Operand)) (ho : op.op = .build t parts) (vs : List (Nat × Value)) (cells : Array Value) (hv : parts.toList.map (fun (i, x) => (i, a.eval x)) = vs) (hb : P.built t vs = some cells) : (execOp a.eval op).run P w = .ok (.value (.agg cells)) w := by
  unfold execOp
  simp only [ho, Sem.run_bind, run_build w t _ cells (by rw [Array.toList_map]; exact hv ▸ hb), Sem.run_pure, Result.andThen_ok]
theorem wpList_build_of {ops : Array Oper} {rest : List Oper} {op : Oper} {a : Go.Act} {w : World} {Q : Exit → Go.Act → World → Prop} (hgd : op.guard = none) (t : TypeId) (parts : Array (Nat × Operand)) (ho : op.op = .build t parts) (vs : List (Nat × Value)) (cells : Array Value) (hv : parts.toList.map (fun (i, x) => (i, a.eval x)) = vs) (hb : P.built t vs = some cells)
    (h : wpList P ops Q rest (a.put op.dst (.agg cells)) w) : wpList P ops Q (op :: rest) a w :=
  wpList_plain hgd fun _ hK => by
    have hr : (execOp a.eval op).run P w = .ok (.value (.agg cells)) w := run_build_of t parts ho vs cells hv hb
    unfold Oper.wp
    rw [hr]
    exact hK _ _ h
/-- an array by value, at a place -/
theorem run_index_array {t e : TypeId} {n : Nat} (cs : Array Value) (k : IntKind) (i : Nat) (v : Value) (w : World) (h : P.underlying t = some (.array n e)) (hs : ∀ w, (sizeOf e).run P w = .ok 1 w) (ha : ∀ w, (isAgg e).run P w = .ok false w) (hi : i < n) (hv : cs[i]? = some v) : (Instr.index t (.agg cs) (.int k (i : Nat))).run P w = .ok v w := by
  simp [Instr.index, asIntOf, run_underlying h, hi, part, hs, ha, hv]
end
theorem kinds_get (k : Nat) (h : k < 18) : kindsA[k]? = some (.string (str (wordsL.getD k []))) := by
  have : wordsL.length = 18 := rfl
  unfold kindsA
  simp [List.getD, this, h]
theorem built77 : Tryz.prog.built 77 [(0, .string ⟨#[]⟩), (1, .string ⟨#[115, 117, 112, 101, 114]⟩), (2, .string ⟨#[98, 97, 115, 101]⟩), (3, .string ⟨#[106, 111, 117, 114, 110, 97, 108]⟩), (4, .string ⟨#[108, 105, 101, 115]⟩), (5, .string ⟨#[98, 111, 120]⟩), (6, .string ⟨#[115, 108, 111, 116]⟩), (7, .string ⟨#[109, 97, 110]⟩), (8, .string ⟨#[112, 108, 97, 99, 101]⟩), (9, .string ⟨#[112, 114, 105, 110, 116]⟩), (10, .string ⟨#[110, 97, 109, 101]⟩), (11, .string ⟨#[108, 97, 99, 107]⟩), (12, .string ⟨#[115, 105, 122, 101]⟩), (13, .string ⟨#[108, 111, 110, 101]⟩), (14, .string ⟨#[111, 102, 116, 101, 110]⟩), (15, .string ⟨#[101, 109, 112, 116, 121]⟩), (16, .string ⟨#[100, 101, 97, 100]⟩), (17, .string ⟨#[116, 119, 105, 110]⟩)] = some kindsA := by kernel_rfl
theorem info77 : (Tryz.prog.info? 77).map (·.size) = some kindsA.size := by kernel_rfl
set_option maxRecDepth 100000 in
set_option maxHeartbeats 4000000 in
theorem kinds31 (w : World) : Calls Tryz.prog 31 #[] w fun e w' => e = .returned (.agg kindsA) ∧ Below w.heap.size w w' := by
  have HB := Lib.hid built77
  have HI := Lib.hid info77
  have HON : Hid (kindsA.all (·.oneCell') = true) := Lib.hid (by kernel_rfl)
  have HS : Hid ((#[Value.string { data := #[] }, Value.string { data := #[] }, Value.string { data := #[] }, Value.string { data := #[] }, Value.string { data := #[] }, Value.string { data := #[] }, Value.string { data := #[] }, Value.string { data := #[] }, Value.string { data := #[] }, Value.string { data := #[] }, Value.string { data := #[] }, Value.string { data := #[] }, Value.string { data := #[] }, Value.string { data := #[] }, Value.string { data := #[] }, Value.string { data := #[] }, Value.string { data := #[] }, Value.string { data := #[] }] : Array Value).size = kindsA.size) := Lib.hid rfl
  generalize kindsA = K at *
  have HQ : Hid ((w.alloc (.cells #[Value.string { data := #[] }, Value.string { data := #[] }, Value.string { data := #[] }, Value.string { data := #[] }, Value.string { data := #[] }, Value.string { data := #[] }, Value.string { data := #[] }, Value.string { data := #[] }, Value.string { data := #[] }, Value.string { data := #[] }, Value.string { data := #[] }, Value.string { data := #[] }, Value.string { data := #[] }, Value.string { data := #[] }, Value.string { data := #[] }, Value.string { data := #[] }, Value.string { data := #[] }, Value.string { data := #[] }] 77)).heap[w.heap.size]? = some (.cells #[Value.string { data := #[] }, Value.string { data := #[] }, Value.string { data := #[] }, Value.string { data := #[] }, Value.string { data := #[] }, Value.string { data := #[] }, Value.string { data := #[] }, Value.string { data := #[] }, Value.string { data := #[] }, Value.string { data := #[] }, Value.string { data := #[] }, Value.string { data := #[] }, Value.string { data := #[] }, Value.string { data := #[] }, Value.string { data := #[] }, Value.string { data := #[] }, Value.string { data := #[] }, Value.string { data := #[] }] 77 (0, 0))) := Lib.hid (heap_alloc_new _ _)
  have HBW : Hid (Below w.heap.size w (w.alloc (.cells #[Value.string { data := #[] }, Value.string { data := #[] }, Value.string { data := #[] }, Value.string { data := #[] }, Value.string { data := #[] }, Value.string { data := #[] }, Value.string { data := #[] }, Value.string { data := #[] }, Value.string { data := #[] }, Value.string { data := #[] }, Value.string { data := #[] }, Value.string { data := #[] }, Value.string { data := #[] }, Value.string { data := #[] }, Value.string { data := #[] }, Value.string { data := #[] }, Value.string { data := #[] }, Value.string { data := #[] }] 77))) := Lib.hid ((Below.refl _ _).alloc (Nat.le_refl _) _)
  have HSZ : Hid (∃ b, b = w.heap.size) := Lib.hid ⟨_, rfl⟩
  go_enter Tryz.func31, Tryz.ntmps31
  go_upto_region 1 with fail
  generalize w.alloc (.cells #[Value.string { data := #[] }, Value.string { data := #[] }, Value.string { data := #[] }, Value.string { data := #[] }, Value.string { data := #[] }, Value.string { data := #[] }, Value.string { data := #[] }, Value.string { data := #[] }, Value.string { data := #[] }, Value.string { data := #[] }, Value.string { data := #[] }, Value.string { data := #[] }, Value.string { data := #[] }, Value.string { data := #[] }, Value.string { data := #[] }, Value.string { data := #[] }, Value.string { data := #[] }, Value.string { data := #[] }] 77) = W1 at *
  obtain ⟨b0, hb0⟩ := HSZ.out
  have HW0 := Lib.hid hb0
  rw [← hb0] at HQ ⊢
  clear hb0 HSZ
  have HSR := Lib.hid (setRow_grown W1 b0 K)
  go_wp2_with (first
    | ((with_reducible refine wpList_build_of (op := ⟨some 1, _, _, _, _, _⟩) rfl 77 #[(0, Operand.const (Value.string { data := #[] })), (1, Operand.const (Value.string { data := #[115, 117, 112, 101, 114] })), (2, Operand.const (Value.string { data := #[98, 97, 115, 101] })), (3, Operand.const (Value.string { data := #[106, 111, 117, 114, 110, 97, 108] })), (4, Operand.const (Value.string { data := #[108, 105, 101, 115] })), (5, Operand.const (Value.string { data := #[98, 111, 120] })), (6, Operand.const (Value.string { data := #[115, 108, 111, 116] })), (7, Operand.const (Value.string { data := #[109, 97, 110] })), (8, Operand.const (Value.string { data := #[112, 108, 97, 99, 101] })), (9, Operand.const (Value.string { data := #[112, 114, 105, 110, 116] })), (10, Operand.const (Value.string { data := #[110, 97, 109, 101] })), (11, Operand.const (Value.string { data := #[108, 97, 99, 107] })), (12, Operand.const (Value.string { data := #[115, 105, 122, 101] })), (13, Operand.const (Value.string { data := #[108, 111, 110, 101] })), (14, Operand.const (Value.string { data := #[111, 102, 116, 101, 110] })), (15, Operand.const (Value.string { data := #[101, 109, 112, 116, 121] })), (16, Operand.const (Value.string { data := #[100, 101, 97, 100] })), (17, Operand.const (Value.string { data := #[116, 119, 105, 110] }))] rfl [(0, .string ⟨#[]⟩), (1, .string ⟨#[115, 117, 112, 101, 114]⟩), (2, .string ⟨#[98, 97, 115, 101]⟩), (3, .string ⟨#[106, 111, 117, 114, 110, 97, 108]⟩), (4, .string ⟨#[108, 105, 101, 115]⟩), (5, .string ⟨#[98, 111, 120]⟩), (6, .string ⟨#[115, 108, 111, 116]⟩), (7, .string ⟨#[109, 97, 110]⟩), (8, .string ⟨#[112, 108, 97, 99, 101]⟩), (9, .string ⟨#[112, 114, 105, 110, 116]⟩), (10, .string ⟨#[110, 97, 109, 101]⟩), (11, .string ⟨#[108, 97, 99, 107]⟩), (12, .string ⟨#[115, 105, 122, 101]⟩), (13, .string ⟨#[108, 111, 110, 101]⟩), (14, .string ⟨#[111, 102, 116, 101, 110]⟩), (15, .string ⟨#[101, 109, 112, 116, 121]⟩), (16, .string ⟨#[100, 101, 97, 100]⟩), (17, .string ⟨#[116, 119, 105, 110]⟩)] K ?_ HB.out ?_); rfl)
    | ((with_reducible refine wpList_store_row (o := ⟨none, .store _ _ _, _, _, _, _⟩) rfl 77 (.tmp 0) (.tmp 1) rfl b0 K ?_ ?_ 77 _ HQ.out HI.out HS.out HON.out ?_); rfl; rfl))
  exact bodyPost_ret (results_cell_row rfl _ _ b0 77 K (0, 0) _ rfl (setRow_heap _ _ _ _ _ _ HQ.out) Tryz.underlying77 rfl HI.out) rfl ⟨rfl, HBW.out.grown HSR.out HBW.out.size (fun j q => by injection q with q; have := HW0.out; omega)⟩
set_option maxRecDepth 100000 in
theorem words41 (w : World) : Calls Tryz.prog 41 #[] w fun e w' => e = .returned (.slice (some ⟨w.heap.size, 0, none⟩) 18 18) ∧ w' = w.alloc (.cells kindsA 9) := by
  go_enter Tryz.func41, Tryz.ntmps41
  go_wp2_with fail
  go_ret
  exact ⟨rfl, rfl⟩
end Go.Proofs.YtocfhldmnbmapaaGreatDoor
