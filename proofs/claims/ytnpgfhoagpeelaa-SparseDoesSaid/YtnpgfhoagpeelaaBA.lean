/- The index as a list of rows; the walk over Put. -/
import Derived.Test.YtnpgfhoagpeelaaB9
import Derived.Test.YtnpgfhoagpeelaaBZ
namespace Go.Proofs.Ytnpgfhoagpeelaa
open Go.RowKit
open Go.Maps
abbrev Rw := Fp × List Id
def lnA (R : List Rw) : Nat := (R.map fun r => r.2.length).sum
def evA (mo : Nat) : List Rw → List Rw
  | [] => []
  | r :: R => if mo < lnA (r :: R) then evA mo R else r :: R
def peekA (R : List Rw) (f : Fp) : List Id := ((R.find? fun r => decide (r.1 = f)).map (·.2)).getD []
def restA (R : List Rw) (f : Fp) : List Rw := R.filter fun r => decide (r.1 ≠ f)
def put1A (ph mo : Nat) (man : Id) (R : List Rw) (f : Fp) : List Rw := evA mo (restA R f ++ [(f, newL ph (cutL (peekA R f) man) man)])
def putsA (ph mo : Nat) (R : List Rw) (man : Id) (fs : List Fp) : List Rw := if 1 ≤ ph ∧ 1 ≤ mo then fs.foldl (put1A ph mo man) R else R
def abE (E : List En) : List Rw := E.map fun e => (e.h, e.l)
theorem ln_ab (E : List En) : lnA (abE E) = lnN E := by unfold lnA lnN abE; rw [List.map_map]; rfl
theorem ev_ab (mo : Nat) : ∀ E : List En, abE (evE mo E) = evA mo (abE E)
  | [] => rfl
  | e :: S => by
    unfold evE
    show _ = evA mo ((e.h, e.l) :: abE S)
    unfold evA
    rw [show lnA ((e.h, e.l) :: abE S) = lnN (e :: S) from ln_ab (e :: S)]
    split
    · exact ev_ab mo S
    · rfl
theorem peek_ab (E : List En) (f : Fp) : peekA (abE E) f = listE E f := by
  unfold peekA listE abE
  rw [List.find?_map, Option.map_map]
  rfl
theorem rest_ab (E : List En) (f : Fp) : restA (abE E) f = abE (E.filter fun x => decide (x.h ≠ f)) := by
  unfold restA abE
  rw [List.filter_map]
  rfl
theorem take_rest {E : List En} {f : Fp} {man : Id} (hf : Full E) : (takeE E f man).filter (fun x => decide (x.h ≠ f)) = E.filter (fun x => decide (x.h ≠ f)) := by
  unfold takeE
  induction E with
  | nil => rfl
  | cons e S ih =>
    have ih2 := ih (fun x hx => hf x (List.mem_cons_of_mem _ hx))
    have he := (hf e (List.mem_cons_self ..)).1
    rw [List.map_cons]
    by_cases q : e.h = f
    · rw [if_pos q, List.filter_cons_of_neg (l := S) (a := e) (by simp [q])]
      rw [← ih2, List.filter_cons]
      split
      · rw [List.filter_cons_of_neg (by simp [cutEn, q])]
      · rfl
    · rw [if_neg q, List.filter_cons_of_pos (by simp [he]), List.filter_cons_of_pos (by simp [q]), List.filter_cons_of_pos (by simp [q]), ih2]
theorem take_list {E : List En} {f : Fp} {man : Id} (hk : HkE E) (hf : Full E) : listE (takeE E f man) f = cutL (listE E f) man := by
  rcases split_hook E f with h | ⟨P, e, S, rfl, rfl⟩
  · rw [take_other h hf, list_other h]; rfl
  · rw [list_mid hk, take_mid hk (fun x hx => hf x (by rcases List.mem_append.1 hx with h | h <;> simp [h]))]
    have hne := hk_ne hk
    by_cases q : cutL e.l man = []
    · rw [if_pos q, List.append_nil, list_other hne, q]
    · rw [if_neg q, List.append_assoc, List.singleton_append]
      have := list_mid (P := P) (S := S) (e := cutEn man e) (hk.mid rfl)
      exact this
/-- what is so of an index -/
structure Ok (ph mo now : Nat) (E : List En) : Prop where
  hk : HkE E
  full : Full E
  srt : E.Pairwise (fun a b => a.u < b.u)
  le : ∀ x ∈ E, x.u ≤ now
  len : ∀ x ∈ E, x.l.length ≤ ph
  tot : lnN E ≤ mo
  phm : ph ≤ 64
  mom : mo ≤ 65536
def Xs (T : Nat → Prop) (W0 W : World) (base xb ph mo N : Nat) (E : List En) : Prop :=
  ∃ mb now n fm, At T W0 W base xb mb ph mo (lnN E : Nat) now n fm E ∧ FmOk fm E ∧ Ok ph mo now E ∧ now ≤ N ∧ n ≤ N
theorem At.rejoin {T : Nat → Prop} {W0 W W' : World} {base xb mb ph mo now n mb' ph' mo' now' n' : Nat} {pairs pairs' : Int} {fm fm' : Fp → Option Nat} {E E' : List En} (h : At T W0 W base xb mb ph mo pairs now n fm E) (k : At (XB xb mb E) W W' base xb mb' ph' mo' pairs' now' n' fm' E') : At T W0 W' base xb mb' ph' mo' pairs' now' n' fm' E' :=
  ⟨k.mem, fun b hb => (k.inz b hb).elim (fun q => h.inz b q) (fun q => .inr (Nat.le_trans h.tn.size q)), h.tn.trans ⟨k.tn.os, k.tn.tape, k.tn.output, k.tn.size, fun b hb hn => k.tn.block b hb (fun q => hn (h.inz b q))⟩⟩
/-- the index may be turned by a callee that is told its own blocks alone -/
theorem Xs.own {T : Nat → Prop} {W0 W : World} {base xb ph mo N : Nat} {E : List En} (h : Xs T W0 W base xb ph mo N E) : ∃ TX : Nat → Prop, Xs TX W W base xb ph mo N E ∧ (∀ b, TX b → b < W.heap.size ∧ base ≤ b) ∧ ∀ W' N' E', Xs TX W W' base xb ph mo N' E' → Xs T W0 W' base xb ph mo N' E' := by
  obtain ⟨mb, now, n, fm, h1, h2⟩ := h
  exact ⟨XB xb mb E, ⟨mb, now, n, fm, ⟨h1.mem, fun b hb => .inl hb, Tn.refl _ _⟩, h2⟩, fun b hb => h1.mem.lt hb, fun W' N' E' ⟨mb', now', n', fm', k1, k2⟩ => ⟨mb', now', n', fm', h1.rejoin k1, k2⟩⟩
theorem Xs.below {T : Nat → Prop} {W0 W W' : World} {base xb ph mo N : Nat} {E : List En} (h : Xs T W0 W base xb ph mo N E) (hb : Below W.heap.size W W') : Xs T W0 W' base xb ph mo N E := by
  obtain ⟨mb, now, n, fm, h1, h2⟩ := h
  exact ⟨mb, now, n, fm, h1.below hb, h2⟩
theorem Xs.tn {T : Nat → Prop} {W0 W : World} {base xb ph mo N : Nat} {E : List En} (h : Xs T W0 W base xb ph mo N E) : Tn T W0 W := by
  obtain ⟨mb, now, n, fm, h1, _⟩ := h
  exact h1.tn
theorem Xs.mono {T : Nat → Prop} {W0 W : World} {base xb ph mo N N' : Nat} {E : List En} (h : Xs T W0 W base xb ph mo N E) (hN : N ≤ N') : Xs T W0 W base xb ph mo N' E := by
  obtain ⟨mb, now, n, fm, h1, h2, h3, h4, h5⟩ := h
  exact ⟨mb, now, n, fm, h1, h2, h3, Nat.le_trans h4 hN, Nat.le_trans h5 hN⟩
theorem own_tn {W W' : World} {base t s n : Nat} {v : Value} {xs : List Value} (h : W.ownsRow base t s v n xs) {T : Nat → Prop} (ht : Tn T W W') (hT : ∀ b, v.ownBlock = some b → ¬ T b) : W'.ownsRow base t s v n xs := by
  refine ⟨h.1, ?_⟩
  rcases h.2 with q | ⟨g, cap, cur, rfl, hb, hg, r⟩
  · exact .inl q
  · exact .inr ⟨g, cap, cur, rfl, hb, (ht.block g (lt_of_block hg) (hT g rfl)).trans hg, r⟩
theorem put28X {T : Nat → Prop} {W0 W : World} {base xb ph mo N : Nat} {E : List En} {f : Fp} {man : Id} (h : Xs T W0 W base xb ph mo N E) (hf : IsFp f) (hN : N < 10000000) (hph : 1 ≤ ph) :
    Calls Try.prog 28 #[.pointer (some ⟨xb, 0, none⟩), .int .u32 man, .agg (fpL f).toArray] W fun r W' => r = .returned (.tuple #[]) ∧ ∃ E', Xs T W0 W' base xb ph mo (N + 1) E' ∧ abE E' = put1A ph mo man (abE E) f := by
  obtain ⟨mb, now, n, fm, h1, h2, h3, h4, h5⟩ := h
  have := h3.phm
  have := h3.mom
  have := h3.tot
  refine (put28 (man := man) h1 hf h2 h3.hk h3.full (by omega) h3.srt h3.le (by omega) (by omega) hph h3.len (by omega)).mono ?_
  rintro r W' ⟨fm', n', e5, rfl, hn', e1, e2, e3, hat, hfm⟩
  rw [take_rest h3.full] at hat hfm
  rw [take_list h3.hk h3.full] at e2
  have hsub := evE_sub mo (E.filter (fun x => decide (x.h ≠ f)) ++ [e5])
  have hkf : HkE (E.filter (fun x => decide (x.h ≠ f)) ++ [e5]) := by
    refine ⟨?_, fun x hx => ?_⟩
    · rw [List.map_append, List.nodup_append]
      refine ⟨h3.hk.1.sublist (List.filter_sublist.map _), by simp, fun a ha b hb => ?_⟩
      obtain ⟨x, hx, rfl⟩ := List.mem_map.1 ha
      simp only [List.map_cons, List.map_nil, List.mem_singleton] at hb
      subst hb
      rw [e1]
      simpa using (List.mem_filter.1 hx).2
    · rcases List.mem_append.1 hx with hx | hx
      · exact h3.hk.2 x (List.mem_filter.1 hx).1
      · rw [List.mem_singleton] at hx; subst hx; rw [e1]; exact hf
  have hnew : newL ph (cutL (listE E f) man) man ≠ [] := by
    unfold newL
    obtain ⟨k, rfl⟩ : ∃ k, ph = k + 1 := ⟨ph - 1, by omega⟩
    simp
  have hnd : (newL ph (cutL (listE E f) man) man).Nodup := by
    unfold newL
    refine List.Nodup.sublist (List.take_sublist _ _) (List.nodup_cons.2 ⟨fun q => ?_, ?_⟩)
    · simpa using (List.mem_filter.1 q).2
    · refine List.Nodup.sublist List.filter_sublist ?_
      rcases split_hook E f with q | ⟨P, e, S, rfl, rfl⟩
      · rw [list_other q]; exact List.nodup_nil
      · rw [list_mid h3.hk]; exact (h3.full e (mem_mid P S e)).2
  refine ⟨rfl, _, ⟨mb, now + 1, n', fm', hat, hfm, ⟨hkf.sub hsub, fun x hx => ?_, List.Pairwise.sublist hsub ?_, fun x hx => ?_, fun x hx => ?_, evE_le _ _, h3.phm, h3.mom⟩, by omega, by omega⟩, ?_⟩
  · rcases List.mem_append.1 (hsub.subset hx) with hx | hx
    · exact h3.full x (List.mem_filter.1 hx).1
    · rw [List.mem_singleton] at hx; subst hx; rw [e2]; exact ⟨hnew, hnd⟩
  · refine List.pairwise_append.2 ⟨h3.srt.sublist List.filter_sublist, by simp, fun x hx y hy => ?_⟩
    rw [List.mem_singleton] at hy; subst hy
    have := h3.le x (List.mem_filter.1 hx).1
    omega
  · rcases List.mem_append.1 (hsub.subset hx) with hx | hx
    · have := h3.le x (List.mem_filter.1 hx).1; omega
    · rw [List.mem_singleton] at hx; subst hx; omega
  · rcases List.mem_append.1 (hsub.subset hx) with hx | hx
    · exact h3.len x (List.mem_filter.1 hx).1
    · rw [List.mem_singleton] at hx; subst hx; rw [e2]; unfold newL; rw [List.length_take]; omega
  · rw [ev_ab]
    unfold put1A
    rw [rest_ab, peek_ab]
    unfold abE
    rw [List.map_append, List.map_cons, e1, e2]
    rfl
theorem Xs.own2 {T : Nat → Prop} {W0 W W2 : World} {base xb ph mo N : Nat} {E : List En} (h : Xs T W0 W base xb ph mo N E) (hb : Below W.heap.size W W2) : ∃ TX : Nat → Prop, Xs TX W2 W2 base xb ph mo N E ∧ (∀ b, TX b → b < W.heap.size ∧ base ≤ b) ∧ ∀ W' N' E', Xs TX W2 W' base xb ph mo N' E' → Xs T W0 W' base xb ph mo N' E' := by
  obtain ⟨mb, now, n, fm, h1, h2⟩ := h
  exact ⟨XB xb mb E, ⟨mb, now, n, fm, ⟨(h1.below hb).mem, fun b hb => .inl hb, Tn.refl _ _⟩, h2⟩, fun b hb => h1.mem.lt hb, fun W' N' E' ⟨mb', now', n', fm', k1, k2⟩ => ⟨mb', now', n', fm', (h1.below hb).rejoin k1, k2⟩⟩
theorem put12_nil {A : Option Addr} {c n : Nat} {man : Id} (W : World) : Calls Try.prog 12 #[.pointer none, .int .u32 man, .slice A n c] W fun r W' => r = .returned (.tuple #[]) ∧ W' = W := by
  go_enter Try.func12, Try.ntmps12
  go_wp2_with fail
  exact bodyPost_ret (results_none rfl _ _ _) rfl ⟨rfl, rfl⟩
set_option maxRecDepth 100000 in
set_option maxHeartbeats 4000000 in
theorem put12_zero {T : Nat → Prop} {W0 W : World} {base xb ph mo N : Nat} {E : List En} {A : Option Addr} {c n : Nat} {man : Id} (h : Xs T W0 W base xb ph mo N E) (hz : ¬ (1 ≤ ph ∧ 1 ≤ mo)) :
    Calls Try.prog 12 #[.pointer (some ⟨xb, 0, none⟩), .int .u32 man, .slice A n c] W fun r W' => r = .returned (.tuple #[]) ∧ W' = W := by
  obtain ⟨mb, now, n', fm, h1, h2⟩ := h
  have c0 := h1.mem.c.1
  have c1 := h1.mem.c.2.1
  clear h1 h2
  by_cases hp : ph = 0
  · subst hp
    go_enter Try.func12, Try.ntmps12
    go_wp2_with fail
    exact bodyPost_ret (results_none rfl _ _ _) rfl ⟨rfl, rfl⟩
  · have hm : mo = 0 := by omega
    subst hm
    have hpi : (((ph : Nat) : Int) == 0) = false := by rw [beq_eq_false_iff_ne]; omega
    go_enter Try.func12, Try.ntmps12
    go_wp2_with fail
    exact bodyPost_ret (results_none rfl _ _ _) rfl ⟨rfl, rfl⟩
set_option maxRecDepth 100000 in
set_option maxHeartbeats 4000000 in
theorem put12 {T : Nat → Prop} {W0 W : World} {base xb ph mo N : Nat} {E : List En} {A : Option Addr} {c : Nat} {hs : List Fp} {man : Id} (h : Xs T W0 W base xb ph mo N E) (hf : Fps W A hs) (ha : AllFp hs) (hA : AOz A hs.length) (hn : hs.length ≤ 1000) (hN : N < 1000000) :
    Calls Try.prog 12 #[.pointer (some ⟨xb, 0, none⟩), .int .u32 man, .slice A hs.length c] W fun r W' => r = .returned (.tuple #[]) ∧ ∃ E', Xs T W0 W' base xb ph mo (N + hs.length) E' ∧ abE E' = putsA ph mo (abE E) man (setF hs) := by
  by_cases hz : 1 ≤ ph ∧ 1 ≤ mo
  · have HS := Lib.hid (set27z (c := c) hf ha (by omega) hA)
    have HX := Lib.hid h
    have HAS := Lib.hid (setF_fp ha)
    have hlen := setF_len hs
    have HPA : Hid (putsA ph mo (abE E) man (setF hs) = (setF hs).foldl (put1A ph mo man) (abE E)) := Lib.hid (if_pos hz)
    have c0 : W.cell? ⟨xb, 0, none⟩ = some (.int .i64 (ph : Nat)) := by obtain ⟨mb, now, n', fm, h1, h2⟩ := h; exact h1.mem.c.1
    have c1 : W.cell? ⟨xb, 1, none⟩ = some (.int .i64 (mo : Nat)) := by obtain ⟨mb, now, n', fm, h1, h2⟩ := h; exact h1.mem.c.2.1
    have hpi : (((ph : Nat) : Int) == 0) = false := by rw [beq_eq_false_iff_ne]; omega
    have hmi : (((mo : Nat) : Int) == 0) = false := by rw [beq_eq_false_iff_ne]; omega
    have hph := hz.1
    clear h hf ha hA hz
    go_enter Try.func12, Try.ntmps12
    go_wp2_with fail
    refine Calls.mono HS.out ?_
    rintro _ W2 ⟨SB, sd, rfl, hrow, hb⟩
    obtain ⟨TX, hx2, hTX, hback⟩ := HX.out.own2 hb
    have HROW := Lib.hid hrow
    have HBK := Lib.hid hback
    have HTO : Hid (∀ b, (Value.slice SB (setF hs).length sd).ownBlock = some b → ¬ TX b) := Lib.hid (fun b q ht => by have := (hTX b ht).1; have := (hrow.lt b q).1; omega)
    have HX2 := Lib.hid hx2
    clear hrow hback hTX hx2 hb HX HS c0 c1 hpi hmi
    generalize hSQ : setF hs = S at *
    have HSQ := Lib.hid hSQ
    clear hSQ
    go_wp2_with fail
    go_loopg [27] S.length (fun gk i wr => ∃ (k : Nat) (E' : List En), k ≤ S.length ∧ gk = S.length - k ∧ i = .int .i64 k ∧ Xs TX W2 wr base xb ph mo (N + k) E' ∧ abE E' = (S.take k).foldl (put1A ph mo man) (abE E))
    case atStart => exact ⟨0, E, Nat.zero_le _, rfl, rfl, HX2.out, by simp⟩
    case round =>
      obtain ⟨k, E', hk, hgk, rfl, hx, hab⟩ := hrel
      have HK := Lib.hid hgk
      have HXK := Lib.hid hx
      have HAB := Lib.hid hab
      clear hgk hx hab HX2
      have hk0 : (0 : Int) ≤ (k : Int) := by omega
      by_cases hlt : k < S.length
      · obtain ⟨x, hx⟩ : ∃ x, S[k]? = some x := ⟨_, List.getElem?_eq_getElem hlt⟩
        have HXF := Lib.hid (HAS.out x (List.mem_of_getElem? hx))
        obtain ⟨b, o, rfl, _, hr⟩ := Fps.get (row_own (own_tn HROW.out HXK.out.tn HTO.out)) HAS.out hx
        have HRW := Lib.hid hr
        have HIX := Lib.hid (info29f HXF.out)
        have HI2 : Hid ((Try.prog.info? 47).map (·.size) = some (fpL x).toArray.size) := Lib.hid (by rw [List.size_toArray]; exact HIX.out)
        have HS2 : Hid ((#[Value.int .u8 0, Value.int .u8 0, Value.int .u8 0, Value.int .u8 0, Value.int .u8 0, Value.int .u8 0, Value.int .u8 0, Value.int .u8 0, Value.int .u8 0, Value.int .u8 0, Value.int .u8 0, Value.int .u8 0, Value.int .u8 0, Value.int .u8 0, Value.int .u8 0, Value.int .u8 0, Value.int .u8 0, Value.int .u8 0, Value.int .u8 0, Value.int .u8 0, Value.int .u8 0, Value.int .u8 0, Value.int .u8 0, Value.int .u8 0, Value.int .u8 0, Value.int .u8 0, Value.int .u8 0, Value.int .u8 0, Value.int .u8 0, Value.int .u8 0, Value.int .u8 0, Value.int .u8 0] : Array Value).size = (fpL x).toArray.size) := Lib.hid (by rw [show (fpL x).toArray.size = 32 by rw [List.size_toArray, fpL_length HXF.out]]; rfl)
        have HON : Hid ((fpL x).toArray.all (·.oneCell') = true) := Lib.hid (all_oneCell_toArray fpL_one)
        have HB1 : Hid (Below wr.heap.size wr (wr.alloc (.cells (fpL x).toArray 47))) := Lib.hid ((Below.refl _ _).alloc (Nat.le_refl _) _)
        have HRB := Lib.hid (box_range (heap_alloc_new wr (.cells (fpL x).toArray 47)))
        have HC := Lib.hid (put28X (man := man) (HXK.out.below HB1.out) HXF.out (by omega) hph)
        have HTK : Hid ((S.take (k + 1)).foldl (put1A ph mo man) (abE E) = put1A ph mo man ((S.take k).foldl (put1A ph mo man) (abE E)) x) := Lib.hid (by rw [List.take_add_one, hx, List.foldl_append]; rfl)
        have hk1 : (k : Int) < (S.length : Int) := by omega
        clear hx hr
        go_wp2_with (first
          | ((with_reducible refine wpList_load_mid (op := ⟨some 30, _, _, _, _, _⟩) rfl 47 (.tmp 29) rfl b (o + k * 32) ?_ (fpL x) _ HRW.out Try.underlying47 rfl HIX.out ?_); rfl)
          | ((with_reducible refine wpList_store_new (op := ⟨none, .store _ _ _, _, _, _, _⟩) rfl 47 (.tmp 7) (.tmp 30) rfl _ (fpL x).toArray ?_ ?_ HI2.out HS2.out HON.out ?_); rfl; rfl)
          | ((with_reducible refine wpList_load_mid (op := ⟨some 33, _, _, _, _, _⟩) rfl 47 (.tmp 7) rfl wr.heap.size 0 ?_ (fpL x) _ HRB.out Try.underlying47 rfl HIX.out ?_); rfl))
        refine Calls.mono HC.out ?_
        rintro _ W3 ⟨rfl, E3, hx3, hab3⟩
        have HX3 := Lib.hid hx3
        have HAB3 := Lib.hid hab3
        clear hx3 hab3
        go_wp2_with fail
        go_roundg (S.length - (k + 1))
        case measure => rw [HK.out]; omega
        case rel => exact ⟨k + 1, E3, by omega, rfl, by go_num, HX3.out, by rw [HTK.out, HAB3.out, HAB.out]⟩
      · obtain rfl : k = S.length := by omega
        go_wp2_with fail
        go_end0
        exact ⟨rfl, E', (HBK.out _ _ _ HXK.out).mono (by omega), by rw [HSQ.out, HPA.out, HAB.out, List.take_length]⟩
  · refine (put12_zero (A := A) (c := c) (n := hs.length) (man := man) h hz).mono (fun r W' q => ⟨q.1, E, ?_, ?_⟩)
    · rw [q.2]; exact h.mono (by omega)
    · rw [putsA, if_neg hz]
end Go.Proofs.Ytnpgfhoagpeelaa
