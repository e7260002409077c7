/- Findings and their texts, in plain words: the law. -/
import Derived.Lib.ParseIntBCases
import Derived.Lib.ItoaNum
namespace Go.Proofs.YtocfhldmnbmapaaGreatDoor
open Go.Lib
def str (l : List UInt8) : ByteArray := ⟨l.toArray⟩
theorem str_inj {a b : List UInt8} (h : str a = str b) : a = b := by
  have h2 := congrArg (fun x : ByteArray => x.data.toList) h
  simpa [str] using h2
def splitL (by_ : UInt8) : List UInt8 → List (List UInt8)
  | [] => [[]]
  | c :: r => if c = by_ then [] :: splitL by_ r else
    match splitL by_ r with
    | [] => [[c]]
    | h :: t => (c :: h) :: t
theorem splitL_ne (x : UInt8) (l : List UInt8) : splitL x l ≠ [] := by
  cases l with
  | nil => simp [splitL]
  | cons c r =>
    rw [splitL]
    split
    · simp
    · split <;> simp
theorem splitL_noSep {x : UInt8} {h : List UInt8} (hn : x ∉ h) : splitL x h = [h] := by
  induction h with
  | nil => rfl
  | cons c r ih =>
    simp only [List.mem_cons, not_or] at hn
    rw [splitL, if_neg (fun e => hn.1 e.symm), ih hn.2]
theorem splitL_app {x : UInt8} {h : List UInt8} (hn : x ∉ h) (t : List UInt8) : splitL x (h ++ x :: t) = h :: splitL x t := by
  induction h with
  | nil => simp [splitL]
  | cons c r ih =>
    simp only [List.mem_cons, not_or] at hn
    rw [List.cons_append, splitL, if_neg (fun e => hn.1 e.symm), ih hn.2]
def joinT (l : List (List UInt8)) : List UInt8 := l.flatMap fun x => 32 :: x
theorem split_join : ∀ {s w : List UInt8} {ws : List (List UInt8)}, splitL 32 s = w :: ws → s = w ++ joinT ws
  | [], w, ws, h => by
    rw [splitL] at h
    injection h with h1 h2
    subst h1; subst h2; rfl
  | c :: r, w, ws, h => by
    rw [splitL] at h
    split at h
    · rename_i e
      injection h with h1 h2
      subst h1; subst h2
      cases hs : splitL 32 r with
      | nil => exact absurd hs (splitL_ne _ _)
      | cons a b =>
        have := split_join hs
        rw [show joinT (a :: b) = 32 :: (a ++ joinT b) from by simp [joinT], ← this, e]
        rfl
    · cases hs : splitL 32 r with
      | nil => exact absurd hs (splitL_ne _ _)
      | cons a b =>
        rw [hs] at h
        injection h with h1 h2
        subst h1; subst h2
        rw [split_join hs]
        rfl
theorem join_split : ∀ {ws : List (List UInt8)} {w : List UInt8}, (∀ x ∈ w :: ws, (32 : UInt8) ∉ x) → splitL 32 (w ++ joinT ws) = w :: ws
  | [], w, h => by
    rw [show joinT [] = [] from rfl, List.append_nil]
    exact splitL_noSep (h w (List.mem_cons_self ..))
  | x :: r, w, h => by
    rw [show joinT (x :: r) = 32 :: (x ++ joinT r) from by simp [joinT], splitL_app (h w (List.mem_cons_self ..)), join_split (fun y hy => h y (List.mem_cons_of_mem _ hy))]
/-- a finding -/
structure Fd where
  k : Int
  id : Nat
  nm : List UInt8
  at_ : Int
def zfd : Fd := ⟨0, 0, [], 0⟩
def wordsL : List (List UInt8) := [[], [115, 117, 112, 101, 114], [98, 97, 115, 101], [106, 111, 117, 114, 110, 97, 108], [108, 105, 101, 115], [98, 111, 120], [115, 108, 111, 116], [109, 97, 110], [112, 108, 97, 99, 101], [112, 114, 105, 110, 116], [110, 97, 109, 101], [108, 97, 99, 107], [115, 105, 122, 101], [108, 111, 110, 101], [111, 102, 116, 101, 110], [101, 109, 112, 116, 121], [100, 101, 97, 100], [116, 119, 105, 110]]
def hasT (k : Int) : Bool × Bool × Bool :=
  if k = 5 ∨ k = 7 ∨ k = 13 ∨ k = 14 ∨ k = 15 then (true, false, false) else
  if k = 6 ∨ k = 8 ∨ k = 9 ∨ k = 16 ∨ k = 17 then (true, false, true) else
  if k = 10 ∨ k = 12 then (false, true, false) else
  if k = 11 then (false, true, true) else (false, false, false)
def mayP (f : Fd) : Prop := 1 ≤ f.k ∧ f.k ≤ 17 ∧ 0 ≤ f.at_ ∧ f.nm.length ≤ 48 ∧ (hasT f.k).1 = decide (f.id ≠ 0) ∧ (hasT f.k).2.1 = decide (f.nm ≠ []) ∧ ((hasT f.k).2.2 = false → f.at_ = 0)
instance (f : Fd) : Decidable (mayP f) := by unfold mayP; exact inferInstance
def hexD (n : Nat) : UInt8 := ([48, 49, 50, 51, 52, 53, 54, 55, 56, 57, 97, 98, 99, 100, 101, 102] : List UInt8).getD n 0
def hexL (l : List UInt8) : List UInt8 := l.flatMap fun c => [hexD (c.toNat / 16), hexD (c.toNat % 16)]
def argsL (f : Fd) : List (List UInt8) := (if (hasT f.k).1 then [decDigits f.id] else []) ++ ((if (hasT f.k).2.1 then [hexL f.nm] else []) ++ (if (hasT f.k).2.2 then [decDigits f.at_.toNat] else []))
def textL (f : Fd) : List UInt8 := wordsL.getD f.k.toNat [] ++ joinT (argsL f)
/-- a number that is read -/
def numO (x : List UInt8) : Option Nat := match parseUintB 32 x with
  | .ok u => if decDigits u = x then some u else none
  | _ => none
def hexV (c : UInt8) : Option Nat := if 48 ≤ c.toNat ∧ c.toNat ≤ 57 then some (c.toNat - 48) else if 97 ≤ c.toNat ∧ c.toNat ≤ 102 then some (c.toNat - 87) else none
def unhex : List UInt8 → Option (List UInt8)
  | [] => some []
  | [_] => none
  | h :: l :: r => match hexV h, hexV l, unhex r with
    | some a, some b, some t => some (UInt8.ofNat (a * 16 + b) :: t)
    | _, _, _ => none
def kindO (w : List UInt8) : Option Nat := ((wordsL.drop 1).findIdx? fun x => decide (x = w)).map (· + 1)
def argN (b : Bool) (ws : List (List UInt8)) : Option (Nat × List (List UInt8)) := if b then (match ws with | [] => none | x :: r => (numO x).map fun n => (n, r)) else some (0, ws)
def argT (b : Bool) (ws : List (List UInt8)) : Option (List UInt8 × List (List UInt8)) := if b then (match ws with | [] => none | x :: r => (unhex x).map fun n => (n, r)) else some ([], ws)
def endP (k : Nat) (n : Nat) (t : List UInt8) (a : Nat) (ws : List (List UInt8)) : Option Fd := if ws = [] ∧ mayP ⟨(k : Nat), n, t, (a : Nat)⟩ then some ⟨(k : Nat), n, t, (a : Nat)⟩ else none
def partsO (k : Nat) (ws : List (List UInt8)) : Option Fd :=
  (argN (hasT (k : Nat)).1 ws).bind fun x => (argT (hasT (k : Nat)).2.1 x.2).bind fun y => (argN (hasT (k : Nat)).2.2 y.2).bind fun z => endP k x.1 y.1 z.1 z.2
def parseO (s : List UInt8) : Option Fd := match splitL 32 s with
  | [] => none
  | w :: ws => (kindO w).bind fun k => partsO k ws
theorem dec_mem (n : Nat) : ∀ c ∈ decDigits n, 48 ≤ c.toNat ∧ c.toNat ≤ 57 := by
  induction n using Nat.strongRecOn with
  | _ n ih =>
    intro c hc
    have hd : ∀ d, d < 10 → 48 ≤ (UInt8.ofNat (48 + d)).toNat ∧ (UInt8.ofNat (48 + d)).toNat ≤ 57 := by decide
    rw [decDigits] at hc
    split at hc
    · rename_i h
      rw [List.mem_singleton] at hc
      subst hc
      exact hd n h
    · rename_i h
      rcases List.mem_append.1 hc with hc | hc
      · exact ih (n / 10) (by omega) c hc
      · rw [List.mem_singleton] at hc
        subst hc
        exact hd (n % 10) (Nat.mod_lt _ (by decide))
theorem dec_ne (n : Nat) : decDigits n ≠ [] := by
  rw [decDigits]
  split <;> simp
theorem parse_dec (M : Nat) (hM : M ≤ 4294967295) : ∀ (n : Nat), n ≤ M → ∀ r, parseUintM M 0 (decDigits n ++ r) = parseUintM M n r := by
  intro n
  induction n using Nat.strongRecOn with
  | _ n ih =>
    intro hn r
    have hd : ∀ d, d < 10 → (UInt8.ofNat (48 + d)).toNat = 48 + d := by decide
    rw [decDigits]
    split
    · rename_i h
      rw [List.singleton_append, parseUintM, hd n h, if_pos (by omega), if_neg (by omega), if_neg (by omega)]
      congr 1
      omega
    · rename_i h
      rw [List.append_assoc, ih (n / 10) (by omega) (by omega), List.singleton_append, parseUintM, hd (n % 10) (Nat.mod_lt _ (by decide)), if_pos (by omega), if_neg (by omega), if_neg (by omega)]
      congr 1
      omega
theorem num_dec {n : Nat} (h : n < 4294967296) : numO (decDigits n) = some n := by
  have h1 : parseUintB 32 (decDigits n) = .ok n := by
    unfold parseUintB
    rw [if_neg (dec_ne n)]
    have := parse_dec (2 ^ 32 - 1) (by decide) n (by omega) []
    rw [List.append_nil] at this
    rw [this]
    rfl
  unfold numO
  rw [h1]
  exact if_pos rfl
theorem num_inv {x : List UInt8} {n : Nat} (h : numO x = some n) : decDigits n = x ∧ n < 4294967296 := by
  unfold numO at h
  split at h
  · rename_i u hu
    split at h
    · rename_i e
      injection h with h
      subst h
      exact ⟨e, by have := parseUintB_le hu; omega⟩
    · cases h
  · cases h
theorem hexV_D : ∀ n : Fin 16, hexV (hexD n.1) = some n.1 := by decide
theorem hexD_inv {c : UInt8} {n : Nat} (h : hexV c = some n) : hexD n = c ∧ n < 16 := by
  have key : ∀ c : Fin 256, (hexV (UInt8.ofNat c.1)).all (fun n => decide (hexD n = UInt8.ofNat c.1 ∧ n < 16)) = true := by decide +kernel
  have := key ⟨c.toNat, c.toNat_lt⟩
  simp only [UInt8.ofNat_toNat] at this
  rw [h] at this
  simpa using this
theorem unhex_hex : ∀ l : List UInt8, unhex (hexL l) = some l
  | [] => rfl
  | c :: r => by
    have h1 := hexV_D ⟨c.toNat / 16, by have := c.toNat_lt; omega⟩
    have h2 := hexV_D ⟨c.toNat % 16, Nat.mod_lt _ (by decide)⟩
    have ih := unhex_hex r
    unfold hexL at *
    rw [List.flatMap_cons]
    simp only [List.cons_append, List.nil_append] at *
    rw [unhex, h1, h2, ih]
    simp only
    rw [Nat.div_add_mod' c.toNat 16]
    simp
theorem hex_unhex : ∀ {l t : List UInt8}, unhex l = some t → hexL t = l
  | [], t, h => by injection h with h; subst h; rfl
  | [_], t, h => by cases h
  | a :: b :: r, t, h => by
    rw [unhex] at h
    split at h
    · rename_i x y z h1 h2 h3
      injection h with h
      subst h
      obtain ⟨e1, l1⟩ := hexD_inv h1
      obtain ⟨e2, l2⟩ := hexD_inv h2
      have ih := hex_unhex h3
      unfold hexL at *
      rw [List.flatMap_cons, ih]
      have e3 : (UInt8.ofNat (x * 16 + y)).toNat = x * 16 + y := by
        rw [UInt8.toNat_ofNat']
        exact Nat.mod_eq_of_lt (by omega)
      rw [e3, show (x * 16 + y) / 16 = x by omega, show (x * 16 + y) % 16 = y by omega, e1, e2]
      rfl
    · cases h
theorem hexD_ge : ∀ n : Fin 16, hexD n.1 ≠ 32 := by decide
theorem hex_mem (l : List UInt8) : (32 : UInt8) ∉ hexL l := by
  intro h
  unfold hexL at h
  obtain ⟨c, _, hc⟩ := List.mem_flatMap.1 h
  have h1 := hexD_ge ⟨c.toNat / 16, by have := c.toNat_lt; omega⟩
  have h2 := hexD_ge ⟨c.toNat % 16, Nat.mod_lt _ (by decide)⟩
  simp only [List.mem_cons, List.not_mem_nil, or_false] at hc
  rcases hc with hc | hc
  · exact h1 hc.symm
  · exact h2 hc.symm
theorem dec_no (n : Nat) : (32 : UInt8) ∉ decDigits n := fun h => by
  have := (dec_mem n _ h).1
  revert this
  decide
theorem args_no (f : Fd) : ∀ x ∈ argsL f, (32 : UInt8) ∉ x := by
  intro x hx
  unfold argsL at hx
  rcases List.mem_append.1 hx with hx | hx
  · split at hx
    · rw [List.mem_singleton] at hx; subst hx; exact dec_no _
    · cases hx
  · rcases List.mem_append.1 hx with hx | hx
    · split at hx
      · rw [List.mem_singleton] at hx; subst hx; exact hex_mem _
      · cases hx
    · split at hx
      · rw [List.mem_singleton] at hx; subst hx; exact dec_no _
      · cases hx
theorem words_no : ∀ k : Fin 18, (32 : UInt8) ∉ wordsL.getD k.1 [] := by decide
theorem kind_word : ∀ k : Fin 18, 1 ≤ k.1 → kindO (wordsL.getD k.1 []) = some k.1 := by decide
theorem word_kind {w : List UInt8} {k : Nat} (h : kindO w = some k) : 1 ≤ k ∧ k ≤ 17 ∧ wordsL.getD k [] = w := by
  unfold kindO at h
  cases hf : ((wordsL.drop 1).findIdx? fun x => decide (x = w)) with
  | none => rw [hf] at h; cases h
  | some j =>
    rw [hf] at h
    injection h with h
    have h : j + 1 = k := h
    subst h
    obtain ⟨hlt, hp, _⟩ := List.findIdx?_eq_some_iff_getElem.1 hf
    have hl : (wordsL.drop 1).length = 17 := rfl
    refine ⟨by omega, by omega, ?_⟩
    have := of_decide_eq_true hp
    rw [← this]
    rw [List.getElem_drop]
    have h18 : wordsL.length = 18 := rfl
    rw [List.getD, List.getElem?_eq_getElem (by omega)]
    simp only [Option.getD_some]
    congr 1
    omega
/-- what a finding says is read back -/
theorem parse_text {f : Fd} (h : mayP f) (hi : f.id < 4294967296) (ha : f.at_ < 4294967296) : parseO (textL f) = some f := by
  obtain ⟨k, id, nm, at_⟩ := f
  obtain ⟨h1, h2, h3, h4, h5, h6, h7⟩ := h
  simp only at *
  obtain ⟨k, rfl⟩ : ∃ j : Nat, k = (j : Nat) := ⟨k.toNat, by omega⟩
  obtain ⟨at_, rfl⟩ : ∃ j : Nat, at_ = (j : Nat) := ⟨at_.toNat, by omega⟩
  have hk : k < 18 := by omega
  have hw := words_no ⟨k, hk⟩
  have hkw := kind_word ⟨k, hk⟩ (by simp only; omega)
  simp only at hw hkw
  have hj : splitL 32 (textL ⟨(k : Nat), id, nm, (at_ : Nat)⟩) = wordsL.getD k [] :: argsL ⟨(k : Nat), id, nm, (at_ : Nat)⟩ := by
    unfold textL
    simp only [Int.toNat_natCast]
    exact join_split (fun x hx => by
      rcases List.mem_cons.1 hx with rfl | hx
      · exact hw
      · exact args_no _ x hx)
  unfold parseO
  rw [hj]
  simp only
  rw [hkw]
  simp only [Option.bind_some]
  unfold partsO argsL
  simp only [Int.toNat_natCast]
  have hn1 := num_dec hi
  have hn2 := num_dec (n := at_) (by omega)
  have hu := unhex_hex nm
  have hend : ∀ n t a, n = id → t = nm → a = at_ → endP k n t a [] = some ⟨(k : Nat), id, nm, (at_ : Nat)⟩ := by
    intro n t a e1 e2 e3
    subst e1; subst e2; subst e3
    unfold endP
    exact if_pos ⟨rfl, h1, h2, h3, h4, h5, h6, h7⟩
  generalize hT : hasT (k : Nat) = T at *
  obtain ⟨a, b, c⟩ := T
  simp only at *
  cases a <;> cases b <;> cases c <;> simp only [if_true, Bool.false_eq_true, if_false, List.nil_append, List.append_nil, List.cons_append, argN, argT, hn1, hn2, hu, Option.map_some, Option.bind_some] <;> refine hend _ _ _ ?_ ?_ ?_ <;> simp_all
/-- what is read is what it says -/
theorem text_parse {s : List UInt8} {f : Fd} (h : parseO s = some f) : mayP f ∧ f.id < 4294967296 ∧ f.at_ < 4294967296 ∧ textL f = s := by
  unfold parseO at h
  split at h
  · cases h
  · rename_i w ws hs
    have hjoin := split_join hs
    cases hk : kindO w with
    | none => rw [hk] at h; cases h
    | some k =>
      rw [hk] at h
      simp only [Option.bind_some] at h
      obtain ⟨hk1, hk2, hkw⟩ := word_kind hk
      unfold partsO at h
      obtain ⟨⟨n, ws1⟩, hn, h⟩ := Option.bind_eq_some_iff.1 h
      obtain ⟨⟨t, ws2⟩, ht, h⟩ := Option.bind_eq_some_iff.1 h
      obtain ⟨⟨a, ws3⟩, ha, h⟩ := Option.bind_eq_some_iff.1 h
      simp only at hn ht ha h
      have key : ∀ {b : Bool} {l l' : List (List UInt8)} {n : Nat}, argN b l = some (n, l') → n < 4294967296 ∧ l = (if b then [decDigits n] else []) ++ l' := by
        intro b l l' n h
        cases b with
        | false =>
          injection h with h
          injection h with h1 h2
          subst h1; subst h2
          exact ⟨by decide, rfl⟩
        | true =>
          cases l with
          | nil => cases h
          | cons x r =>
            obtain ⟨m, hm, e⟩ := Option.map_eq_some_iff.1 h
            injection e with e1 e2
            subst e1; subst e2
            obtain ⟨q1, q2⟩ := num_inv hm
            exact ⟨q2, by rw [if_pos rfl, q1]; rfl⟩
      have keyT : ∀ {b : Bool} {l l' : List (List UInt8)} {n : List UInt8}, argT b l = some (n, l') → l = (if b then [hexL n] else []) ++ l' := by
        intro b l l' n h
        cases b with
        | false =>
          obtain ⟨rfl, rfl⟩ := Prod.mk.inj (Option.some.inj h)
          rfl
        | true =>
          cases l with
          | nil => cases h
          | cons x r =>
            obtain ⟨m, hm, e⟩ := Option.map_eq_some_iff.1 h
            injection e with e1 e2
            subst e1; subst e2
            rw [if_pos rfl, hex_unhex hm]
            rfl
      obtain ⟨q1, e1⟩ := key hn
      have e2 := keyT ht
      obtain ⟨q3, e3⟩ := key ha
      unfold endP at h
      split at h
      · rename_i hw
        injection h with h
        subst h
        refine ⟨hw.2, q1, by simp only; omega, ?_⟩
        unfold textL argsL
        simp only [Int.toNat_natCast]
        rw [hjoin, hkw, e1, e2, e3, hw.1, List.append_nil]
      · cases h
end Go.Proofs.YtocfhldmnbmapaaGreatDoor
