/- The walk over ModelCopies. -/
import Derived.Test.YtadagidjppgbkaaW8
import Derived.Deep.RegionWith
namespace Go.Proofs.Ytadagidjppgbkaa
open Go.RowKit Go.Maps Go.Sort
theorem SSt.put {w w1 W : World} {g b : Nat} {s : Md} {r r' : Rm} {A A' : Option Addr} {c c' : Nat} (h : SSt w w1 g b s r A c W) (hN : Nms W g w1.heap.size A' r'.L.length r'.L) (hc : r'.L.length ≤ c') (hA : A' = none → c' = 0) (hm : c' ≤ 9223372036854775807) :
    SSt w w1 g b s r' A' c' ((((W.setCell ⟨w1.heap.size, 0, none⟩ (.slice A' r'.L.length c')).setCell ⟨w1.heap.size, 1, none⟩ (.bool r'.op)).setCell ⟨w1.heap.size, 2, none⟩ (.string r'.nm)).setCell ⟨w1.heap.size, 3, none⟩ (.string r'.by_)) :=
  ⟨h.st.put hN hc hA hm, (((h.bw.setCell (Nat.le_refl _) _).setCell (Nat.le_refl _) _).setCell (Nat.le_refl _) _).setCell (Nat.le_refl _) _⟩
theorem Turn.put {w W : World} {g b : Nat} (h : Turn g b w W) (R : Nat) (hR : w.heap.size ≤ R) (x0 x1 x2 x3 : Value) : Turn g b w ((((W.setCell ⟨R, 0, none⟩ x0).setCell ⟨R, 1, none⟩ x1).setCell ⟨R, 2, none⟩ x2).setCell ⟨R, 3, none⟩ x3) :=
  ⟨h.os, h.tape, h.output, by have := h.size; simpa using this, fun k hk h1 h2 => (put4_oth W R x0 x1 x2 x3 k (by omega)).trans (h.block k hk h1 h2)⟩
theorem Turn.belowT {w W W' : World} {g b : Nat} (h : Turn g b w W) (hb : Below W.heap.size W W') : Turn g b w W' := h.trans (Turn.of_below hb)
set_option maxRecDepth 100000 in
set_option maxHeartbeats 8000000 in
theorem modelCopies (A0 : Option Addr) (n c0 : Nat) (cs : List CallT) (A1 : Option Addr) (m c1 : Nat) (ds : List CallT) (ea eb : Int) (da db : ByteArray) (AA : Option Addr) (na ca : Nat) (xa : List ByteArray) (AB : Option Addr) (nb cb : Nat) (xb : List ByteArray) (w : World)
    (hl : Cls w w.heap.size A0 n cs) (hnc : n ≤ c0) (hcc : c0 ≤ 9223372036854775807) (hl1 : Cls w w.heap.size A1 m ds) (hnc1 : m ≤ c1) (hcc1 : c1 ≤ 9223372036854775807) (ha : Rd w AA na xa) (hb : Rd w AB nb xb) (hna : na ≤ 9223372036854775807) (hnb : nb ≤ 9223372036854775807) :
    Calls Try.prog 7 #[.slice A0 n c0, .slice A1 m c1, .agg #[.int .i64 ea, .string da, .slice AA na ca], .agg #[.int .i64 eb, .string db, .slice AB nb cb]] w (LawPost w) := by
  obtain ⟨N, hmin, hNn, hN40⟩ : ∃ N : Nat, min (n : Int) 30 = (N : Int) ∧ N ≤ n ∧ N ≤ 30 := ⟨min n 30, by omega, by omega, by omega⟩
  obtain ⟨M, hmin1, hMm, hM40⟩ : ∃ M : Nat, min (m : Int) 30 = (M : Int) ∧ M ≤ m ∧ M ≤ 30 := ⟨min m 30, by omega, by omega, by omega⟩
  have hl2 := hl.take hNn
  have hl3 := hl1.take hMm
  generalize cs.take N = ds1 at hl2
  generalize ds.take M = ds2 at hl3
  have hB0 : Below w.heap.size w ((w.alloc (.cells #[.int .i64 ea, .string da, .slice AA na ca] 39)).alloc (.cells #[.int .i64 eb, .string db, .slice AB nb cb] 39)) := new2 _ _ _
  obtain ⟨W0, hW0⟩ : ∃ W0, W0 = (w.alloc (.cells #[.int .i64 ea, .string da, .slice AA na ca] 39)).alloc (.cells #[.int .i64 eb, .string db, .slice AB nb cb] 39) := ⟨_, rfl⟩
  have hba : Blk W0 w.heap.size #[.int .i64 ea, .string da, .slice AA na ca] 39 := by rw [hW0]; exact (Blk.new _ _ _).alloc _
  have hbb : Blk W0 (w.heap.size + 1) #[.int .i64 eb, .string db, .slice AB nb cb] 39 := by rw [hW0]; exact Blk.new1 _ _ _ _
  have hz0 : W0.heap.size = w.heap.size + 2 := by rw [hW0]; simp
  rw [← hW0] at hB0
  have HB0 := Lib.hid hB0
  have HBA := Lib.hid hba
  have HBB := Lib.hid hbb
  have HRA := Lib.hid (ha.below hB0)
  have HRB := Lib.hid (hb.below hB0)
  have lift : ∀ (A : Option Addr) (k : Nat) (l : List CallT), Cls w w.heap.size A k l → Cls W0 W0.heap.size A k l := fun A k l h => by
    have h2 := h.below hB0
    refine ⟨h2.1, h2.2.1, fun h0 => ?_⟩
    obtain ⟨b, o, e, hlt, hc⟩ := h2.2.2 h0
    exact ⟨b, o, e, by omega, hc⟩
  have HL := Lib.hid (lift _ _ _ hl2)
  have HL1 := Lib.hid (lift _ _ _ hl3)
  have HRUN := Lib.hid (run22 A0 N c0 ds1 W0 HL.out (by omega) (by omega))
  have HZ0 := Lib.hid hz0
  have s1 : (N : Int) ≤ (c0 : Int) := by omega
  have s2 : (M : Int) ≤ (c1 : Int) := by omega
  clear hl hl1 hl2 hl3 ha hb hba hbb hz0 hB0 lift
  go_enter Try.func7, Try.ntmps7
  go_wp2_with fail
  rw [← hW0]
  clear hW0
  refine Calls.mono HRUN.out ?_
  rintro e w1 ⟨v1, g, b, s, l, B, rfl, hll, haw1, hsim1, hall, hrow1, hreps, hB, hgB, hbB, hsn⟩
  obtain ⟨AR, cR, rfl⟩ := own_slice' hrow1
  have HSIM1 := Lib.hid hsim1
  have HALL := Lib.hid hall
  have HAW1 := Lib.hid haw1
  have HSN := Lib.hid hsn
  clear hll hsim1 hall hrow1 hreps haw1 hB hgB hbB hsn
  go_wp2_with fail
  refine Calls.mono (copy_at HAW1.out.1) ?_
  rintro e w2 ⟨g2, b2, rfl, hb2, hg2, hbb2, hm2⟩
  have HM2 := Lib.hid (And.intro hm2 (And.intro hb2 (And.intro hg2 hbb2)))
  have HS0 : Hid (SSt W0 w2 g b s rm0 none 0 (w2.alloc (.cells #[.slice none 0 0, .bool false, .string ByteArray.empty, .string ByteArray.empty] 27))) := by
    have haw2 := HAW1.out.turn (HAW1.out.1.below hb2) (Turn.of_below hb2)
    have hlt := haw2.1.lt
    have hb := (Below.refl w2.heap.size w2).alloc (Nat.le_refl _) (.cells #[.slice none 0 0, .bool false, .string ByteArray.empty, .string ByteArray.empty] 27)
    exact ⟨⟨haw2.turn (haw2.1.below hb) (Turn.of_below hb), heap_alloc_new _ _, ⟨rfl, fun x hx => by simp [rm0] at hx, fun h => by simp [rm0] at h⟩, by simp [rm0], fun _ => rfl, by omega, haw2.2.1.size, by omega, by omega⟩, hb⟩
  clear hm2 hb2 hg2 hbb2
  go_wp2_with fail
  go_loopg [13] N (fun gk i wr => ∃ (k : Nat) (A : Option Addr) (c : Nat), k ≤ N ∧ gk = N - k ∧ i = .int .i64 k ∧ SSt W0 w2 g b s (runAt ds1 k) A c wr)
  case atStart => exact ⟨0, _, _, Nat.zero_le _, rfl, rfl, HS0.out⟩
  case round =>
    obtain ⟨k, A, c, hk, hgk, rfl, hst⟩ := hrel
    have HK := Lib.hid hgk
    have HST := Lib.hid hst
    clear hgk hst
    obtain ⟨⟨p0, p1, p2, p3⟩, ⟨f0, f1, f2, f3⟩⟩ := HST.out.st.cells
    by_cases hlt : k < N
    · obtain ⟨x, hx⟩ : ∃ x, ds1[k]? = some x := ⟨ds1[k]'(by rw [HL.out.1]; exact hlt), by simp⟩
      obtain ⟨z1, z2⟩ := HL.out.2.1 x (List.mem_of_getElem? hx)
      obtain ⟨bb, o, rfl, hbb, hcc2⟩ := (HL.out.below HST.out.st.base).2.2 (by omega)
      obtain ⟨a0, a1, a2⟩ := hcc2 k x hx
      obtain ⟨sk, hsk⟩ := HALL.out k hk
      have hnext := runAt_succ hx
      have HR : Hid (∀ (W : World), St W0 g b w2.heap.size s (runAt ds1 k) A c W → Calls Try.prog 12 #[.agg #[.slice A (runAt ds1 k).L.length c, .bool (runAt ds1 k).op, .string (runAt ds1 k).nm, .string (runAt ds1 k).by_], .agg #[.int .i64 x.op, .string x.nm, .string x.da]] W (RdPost g w2.heap.size A (runAt ds1 k).L (runAt ds1 (k + 1)) ((runAt ds1 k).ans x.op x.nm x.da).E ((runAt ds1 k).ans x.op x.nm x.da).D ((runAt ds1 k).ans x.op x.nm x.da).ks W)) := fun W h => by
        rw [hnext]
        exact refDo_all (runAt ds1 k) h.nms (by have := hsk.len; omega) h.cap h.nil h.max h.aw.1.lt.1 h.lt hsk.nsz hsk.bsz x.op x.nm x.da z2
      clear hcc2 hx hsk hnext z1 z2
      generalize (runAt ds1 k).ans x.op x.nm x.da = an at *
      obtain ⟨op, nm, dx⟩ := x
      generalize hr2 : runAt ds1 (k + 1) = r2 at *
      have HR2 := Lib.hid hr2
      clear hr2
      generalize runAt ds1 k = r at *
      simp only at *
      have s3 : (k : Int) < (N : Int) := by omega
      go_wp2_with fail
      have HRD := Lib.hid (HR.out _ HST.out.st.drew)
      go_region_with (first
        | (go_at_call 12; (with_reducible refine Calls.mono HRD.out ?_); rintro e w3 ⟨A3, cp3, v3, rfl, hN3, hc3, hA3, hx3, _, _, hb3⟩
           have HX3 := Lib.hid (And.intro hN3 (And.intro hc3 (And.intro hA3 hx3)))
           have HS3 := Lib.hid (SSt.below ⟨HST.out.st.drew, below_drew HST.out.bw⟩ hb3)
           clear hN3 hc3 hA3 hx3 hb3 p0 p1 p2 p3 f0 f1 f2 f3
           obtain ⟨⟨p0, p1, p2, p3⟩, ⟨f0, f1, f2, f3⟩⟩ := HS3.out.st.cells
           simp only [rmA, replyV]))
      all_goals
        go_wp2_with fail
        go_roundg (N - (k + 1))
        case measure => rw [HK.out]; omega
        case rel =>
          refine ⟨k + 1, A3, cp3, by omega, rfl, by go_num, ?_⟩
          rw [HR2.out]
          exact HS3.out.put HX3.out.1 HX3.out.2.1 HX3.out.2.2.1 HX3.out.2.2.2
    · obtain rfl : k = N := by omega
      obtain ⟨wo, rfl⟩ : ∃ wo : World, wo = wr := ⟨_, rfl⟩
      have HSTO := Lib.hid HST.out
      generalize hr0 : runAt ds1 k = r0 at *
      have HS20 : Hid (St W0 g b wo.heap.size s r0 A c (wo.alloc (.cells #[.slice A r0.L.length c, .bool r0.op, .string r0.nm, .string r0.by_] 27))) := by
        have h := HSTO.out.st
        have hlt := h.aw.1.lt
        have hb := (Below.refl wo.heap.size wo).alloc (Nat.le_refl _) (.cells #[.slice A r0.L.length c, .bool r0.op, .string r0.nm, .string r0.by_] 27)
        have h2 := h.below hb
        refine ⟨h2.aw, heap_alloc_new _ _, (h.nms.map h.aw.1).below hb |>.pair ?_, h.cap, h.nil, h.max, h.base.size, by omega, by omega⟩
        intro h0 a ha
        obtain ⟨q, o, e, hq, h1, _⟩ := h.nms.2.2 h0
        rw [e] at ha
        injection ha with ha
        subst ha
        exact ⟨h1, by show q ≠ _; omega⟩
      have HT0 : Hid (Turn g b wo (wo.alloc (.cells #[.slice A r0.L.length c, .bool r0.op, .string r0.nm, .string r0.by_] 27))) := Turn.of_below ((Below.refl _ _).alloc (Nat.le_refl _) _)
      clear HST HK hr0
      go_wp2_with fail
      go_loopg [15] M (fun gk i wq => ∃ (q : Nat) (sM : Md) (A' : Option Addr) (c' : Nat), q ≤ M ∧ gk = M - q ∧ i = .int .i64 q ∧ Turn g b wo wq ∧ St W0 g b wo.heap.size sM (runF r0 ds2 q) A' c' wq ∧ Sim sM (runF r0 ds2 q) ∧ sM.n ≤ k + q)
      case atStart => exact ⟨0, _, _, _, Nat.zero_le _, rfl, rfl, HT0.out, HS20.out, HSIM1.out, HSN.out⟩
      case round =>
        obtain ⟨q, sM, A', c', hq, hgq, rfl, htq, hsq, hsimq, hnq⟩ := hrel
        have HKQ := Lib.hid hgq
        have HTQ := Lib.hid htq
        have HSQ := Lib.hid hsq
        have HSIMQ := Lib.hid hsimq
        have HNQ := Lib.hid hnq
        clear hgq htq hsq hsimq hnq p0 p1 p2 p3 f0 f1 f2 f3
        by_cases hlt : q < M
        · obtain ⟨x, hx⟩ : ∃ x, ds2[q]? = some x := ⟨ds2[q]'(by rw [HL1.out.1]; exact hlt), by simp⟩
          obtain ⟨z1, z2⟩ := HL1.out.2.1 x (List.mem_of_getElem? hx)
          obtain ⟨bb, o, rfl, hbb, hcc2⟩ := (HL1.out.below HSQ.out.base).2.2 (by omega)
          obtain ⟨a0, a1, a2⟩ := hcc2 q x hx
          have hnext := runF_succ (r := r0) hx
          have HD := Lib.hid (do_all HSQ.out.aw.1 HSIMQ.out (by have := HNQ.out; simp only [maxLen]; omega) x.op x.nm x.da z1 z2)
          have HR : Hid (∀ (W : World) (s' : Md), St W0 g b wo.heap.size s' (runF r0 ds2 q) A' c' W → Calls Try.prog 12 #[.agg #[.slice A' (runF r0 ds2 q).L.length c', .bool (runF r0 ds2 q).op, .string (runF r0 ds2 q).nm, .string (runF r0 ds2 q).by_], .agg #[.int .i64 x.op, .string x.nm, .string x.da]] W (RdPost g wo.heap.size A' (runF r0 ds2 q).L (runF r0 ds2 (q + 1)) ((runF r0 ds2 q).ans x.op x.nm x.da).E ((runF r0 ds2 q).ans x.op x.nm x.da).D ((runF r0 ds2 q).ans x.op x.nm x.da).ks W)) := fun W s' h => by
            rw [hnext]
            exact refDo_all (runF r0 ds2 q) h.nms (by have := HSIMQ.out.len; omega) h.cap h.nil h.max h.aw.1.lt.1 h.lt HSIMQ.out.nsz HSIMQ.out.bsz x.op x.nm x.da z2
          rw [← hnext] at HD
          have HCX : Hid (∀ W, Below W0.heap.size W0 W → W.cell? ⟨bb, o + q * 3, none⟩ = some (.int .i64 x.op) ∧ W.cell? ⟨bb, o + q * 3 + 1, none⟩ = some (.string x.nm) ∧ W.cell? ⟨bb, o + q * 3 + 2, none⟩ = some (.string x.da)) := fun W hb => by
            have e : ∀ j, W.cell? ⟨bb, j, none⟩ = wr.cell? ⟨bb, j, none⟩ := fun j => (hb.cell (p := ⟨bb, j, none⟩) hbb).trans (HSQ.out.base.cell (p := ⟨bb, j, none⟩) hbb).symm
            exact ⟨(e _).trans a0, (e _).trans a1, (e _).trans a2⟩
          clear hcc2 hx hnext z1 z2
          generalize (runF r0 ds2 q).ans x.op x.nm x.da = an at *
          obtain ⟨op, nm, dx⟩ := x
          generalize hr2 : runF r0 ds2 (q + 1) = r2 at *
          have HR2 := Lib.hid hr2
          clear hr2
          generalize runF r0 ds2 q = r at *
          simp only at *
          have s3 : (q : Int) < (M : Int) := by omega
          go_wp2_with fail
          refine Calls.mono HD.out ?_
          rintro e w5 ⟨s5, v5, rfl, _, hm5, ht5, hsim5, hn5⟩
          have HS5 := Lib.hid (HSQ.out.turn hm5 ht5)
          have HT5 := Lib.hid (HTQ.out.trans ht5)
          have HSIM5 := Lib.hid hsim5
          have HN5 := Lib.hid hn5
          have HRD := Lib.hid (HR.out _ _ HS5.out.drew)
          clear hm5 ht5 hsim5 hn5 a0 a1 a2
          obtain ⟨a0, a1, a2⟩ := HCX.out _ HS5.out.base
          obtain ⟨⟨p0, p1, p2, p3⟩, ⟨f0, f1, f2, f3⟩⟩ := HS5.out.cells
          unfold replyV
          go_wp2_with fail
          go_region_with (first
            | (go_at_call 12; (with_reducible refine Calls.mono HRD.out ?_); rintro e w3 ⟨A3, cp3, v3, rfl, hN3, hc3, hA3, hx3, _, _, hb3⟩
               have HX3 := Lib.hid (And.intro hN3 (And.intro hc3 (And.intro hA3 hx3)))
               have HS3 := Lib.hid (HS5.out.drew.below hb3)
               have HT3 : Hid (Turn g b wo w3) := HT5.out.belowT (below_of_drew hb3)
               clear hN3 hc3 hA3 hx3 hb3 p0 p1 p2 p3 f0 f1 f2 f3
               obtain ⟨⟨p0, p1, p2, p3⟩, ⟨f0, f1, f2, f3⟩⟩ := HS3.out.cells
               simp only [rmA, replyV]))
          all_goals
            go_wp2_with fail
            go_roundg (M - (q + 1))
            case measure => rw [HKQ.out]; omega
            case rel =>
              refine ⟨q + 1, s5, A3, cp3, by omega, rfl, by go_num, HT3.out.put _ (Nat.le_refl _) _ _ _ _, ?_, ?_, ?_⟩
              · rw [HR2.out]; exact HS3.out.put HX3.out.1 HX3.out.2.1 HX3.out.2.2.1 HX3.out.2.2.2
              · rw [HR2.out]; exact HSIM5.out
              · have := HN5.out; have := HNQ.out; omega
        · obtain rfl : q = M := by omega
          have HMC0 : Hid (MC W0 g b g2 b2 w2.heap.size wo.heap.size sM s r0 (runF r0 ds2 q) A c A' c' wr) := by
            have hlt1 := HAW1.out.1.lt
            obtain ⟨hm2, _, hg2, hbb2⟩ := HM2.out
            have hbox := HSTO.out.st
            exact ⟨HSQ.out.aw.1, (hm2.below HSTO.out.bw).turn HTQ.out (by omega) (by omega) (by omega) (by omega), HSQ.out.base, HTQ.out.keeps hbox.box hbox.ne.1 hbox.ne.2, HSQ.out.box, (hbox.nms.map hbox.aw.1).turn HTQ.out, HSQ.out.nms.map HSQ.out.aw.1⟩
          have hlen0 := HSIM1.out.len
          have hlenM := HSIMQ.out.len
          have HQ1 : Hid (∀ W, MC W0 g b g2 b2 w2.heap.size wo.heap.size sM s r0 (runF r0 ds2 q) A c A' c' W → sameB s sM = decide (r0.L = (runF r0 ds2 q).L) ∧ sameB sM s = decide (r0.L = (runF r0 ds2 q).L)) := fun W h => by
            have k1 := h.two.keys_eq HSIM1.out.look HSIM1.out.srt
            have k2 := h.one.keys_eq HSIMQ.out.look HSIMQ.out.srt
            refine ⟨sameB_eq k1 k2 HSIM1.out.look HSIMQ.out.look HSIM1.out.srt HSIMQ.out.srt, ?_⟩
            rw [sameB_eq k2 k1 HSIMQ.out.look HSIM1.out.look HSIMQ.out.srt HSIM1.out.srt]
            exact decide_eq_decide.2 ⟨Eq.symm, Eq.symm⟩
          have C1 : Hid (∀ W, MC W0 g b g2 b2 w2.heap.size wo.heap.size sM s r0 (runF r0 ds2 q) A c A' c' W → Calls Try.prog 15 #[.pointer (some ⟨g2, 0, none⟩), .agg #[.slice A r0.L.length c, .bool r0.op, .string r0.nm, .string r0.by_]] W fun e w' => e = .returned (.bool true) ∧ Below W.heap.size W w') := fun W h => same15 (A := A) (c := c) h.two HSIM1.out h.nms1
          have C2 : Hid (∀ W, MC W0 g b g2 b2 w2.heap.size wo.heap.size sM s r0 (runF r0 ds2 q) A c A' c' W → Calls Try.prog 15 #[.pointer (some ⟨g, 0, none⟩), .agg #[.slice A' (runF r0 ds2 q).L.length c', .bool (runF r0 ds2 q).op, .string (runF r0 ds2 q).nm, .string (runF r0 ds2 q).by_]] W fun e w' => e = .returned (.bool true) ∧ Below W.heap.size W w') := fun W h => same15 (A := A') (c := c') h.one HSIMQ.out h.nms2
          have C3 : Hid (∀ W, MC W0 g b g2 b2 w2.heap.size wo.heap.size sM s r0 (runF r0 ds2 q) A c A' c' W → Calls Try.prog 24 #[.pointer (some ⟨g2, 0, none⟩), .pointer (some ⟨g, 0, none⟩)] W fun e w' => e = .returned (.bool (decide (r0.L = (runF r0 ds2 q).L))) ∧ Below W.heap.size W w') := fun W h => by
            rw [← (HQ1.out W h).1]
            exact same24 h.two h.one (by rw [h.two.size_eq HSIM1.out.look HSIM1.out.srt]; omega) (by rw [h.one.size_eq HSIMQ.out.look HSIMQ.out.srt]; omega)
          have C5 : Hid (∀ W, MC W0 g b g2 b2 w2.heap.size wo.heap.size sM s r0 (runF r0 ds2 q) A c A' c' W → Calls Try.prog 24 #[.pointer (some ⟨g, 0, none⟩), .pointer (some ⟨g2, 0, none⟩)] W fun e w' => e = .returned (.bool (decide (r0.L = (runF r0 ds2 q).L))) ∧ Below W.heap.size W w') := fun W h => by
            rw [← (HQ1.out W h).2]
            exact same24 h.one h.two (by rw [h.one.size_eq HSIMQ.out.look HSIMQ.out.srt]; omega) (by rw [h.two.size_eq HSIM1.out.look HSIM1.out.srt]; omega)
          have C4 : Hid (∀ W, MC W0 g b g2 b2 w2.heap.size wo.heap.size sM s r0 (runF r0 ds2 q) A c A' c' W → Calls Try.prog 25 #[.agg #[.slice A r0.L.length c, .bool r0.op, .string r0.nm, .string r0.by_], .agg #[.slice A' (runF r0 ds2 q).L.length c', .bool (runF r0 ds2 q).op, .string (runF r0 ds2 q).nm, .string (runF r0 ds2 q).by_]] W fun e w' => e = .returned (.bool (decide (r0.L = (runF r0 ds2 q).L))) ∧ Below W.heap.size W w') := fun W h => same25 (A1 := A) (A2 := A') (c1 := c) (c2 := c') r0 (runF r0 ds2 q) h.nms1 h.nms2 (by omega) (by omega)
          have C6 : Hid (∀ W, Below W0.heap.size W0 W → Calls Try.prog 23 #[.agg #[.int .i64 ea, .string da, .slice AA na ca], .agg #[.int .i64 eb, .string db, .slice AB nb cb]] W fun e w' => e = .returned (.bool (decide (ea = eb ∧ da = db ∧ xa = xb))) ∧ Below W.heap.size W w') := fun W h => alk23 ea eb da db (HRA.out.below h) (HRB.out.below h) hna hnb
          have C7 : Hid (∀ W, Below W0.heap.size W0 W → Calls Try.prog 13 #[.agg #[.int .i64 ea, .string da, .slice AA na ca], .agg #[.int .i64 eb, .string db, .slice AB nb cb]] W fun e w' => e = .returned (.bool (decide (ea = eb ∧ da = db ∧ xa = xb))) ∧ Below W.heap.size W w') := fun W h => alk13 ea eb da db (HRA.out.below h) (HRB.out.below h) hna hnb
          have C8 : Hid (∀ W, Below W0.heap.size W0 W → Calls Try.prog 23 #[.agg #[.int .i64 ea, .string da, .slice AA na ca], .agg #[.int .i64 ea, .string da, .slice AA na ca]] W fun e w' => e = .returned (.bool true) ∧ Below W.heap.size W w') := fun W h => by
            have := alk23 (c := ca) (d := ca) ea ea da da (HRA.out.below h) (HRA.out.below h) hna hna
            rwa [decide_eq_true (by exact ⟨rfl, rfl, rfl⟩)] at this
          have HBX : Hid (∀ W, Below W0.heap.size W0 W → (W.cell? ⟨w.heap.size, 0, none⟩ = some (.int .i64 ea) ∧ W.cell? ⟨w.heap.size, 1, none⟩ = some (.string da) ∧ W.cell? ⟨w.heap.size, 2, none⟩ = some (.slice AA na ca)) ∧ (W.cell? ⟨w.heap.size + 1, 0, none⟩ = some (.int .i64 eb) ∧ W.cell? ⟨w.heap.size + 1, 1, none⟩ = some (.string db) ∧ W.cell? ⟨w.heap.size + 1, 2, none⟩ = some (.slice AB nb cb))) := fun W h => ⟨(HBA.out.below h).c3, (HBB.out.below h).c3⟩
          clear hlen0 hlenM
          generalize hQ : decide (r0.L = (runF r0 ds2 q).L) = Q at *
          generalize hP : decide (ea = eb ∧ da = db ∧ xa = xb) = P at *
          clear hQ hP HQ1
          generalize runF r0 ds2 q = rM at *
          have HSA : Hid (∀ W, MC W0 g b g2 b2 w2.heap.size wo.heap.size sM s r0 rM A c A' c' W → (W.cell? ⟨w2.heap.size, 0, none⟩ = some (.slice A r0.L.length c) ∧ W.cell? ⟨w2.heap.size, 1, none⟩ = some (.bool r0.op) ∧ W.cell? ⟨w2.heap.size, 2, none⟩ = some (.string r0.nm) ∧ W.cell? ⟨w2.heap.size, 3, none⟩ = some (.string r0.by_)) ∧ W.cell? ⟨wo.heap.size, 0, none⟩ = some (.slice A' rM.L.length c') ∧ W.cell? ⟨wo.heap.size, 1, none⟩ = some (.bool rM.op) ∧ W.cell? ⟨wo.heap.size, 2, none⟩ = some (.string rM.nm) ∧ W.cell? ⟨wo.heap.size, 3, none⟩ = some (.string rM.by_)) := fun W h =>
            ⟨⟨cell_of_row W _ 0 _ 27 (0, 0) h.box1, cell_of_row W _ 1 _ 27 (0, 0) h.box1, cell_of_row W _ 2 _ 27 (0, 0) h.box1, cell_of_row W _ 3 _ 27 (0, 0) h.box1⟩, cell_of_row W _ 0 _ 27 (0, 0) h.box2, cell_of_row W _ 1 _ 27 (0, 0) h.box2, cell_of_row W _ 2 _ 27 (0, 0) h.box2, cell_of_row W _ 3 _ 27 (0, 0) h.box2⟩
          have HM := Lib.hid (HMC0.out.below (W' := wr.drew) ⟨rfl, rfl, rfl, Nat.le_refl _, fun _ _ => rfl⟩)
          go_wp2_with fail
          go_region_held3 (fun w' => (w'.cell? ⟨w2.heap.size, 0, none⟩ = some (.slice A r0.L.length c) ∧ w'.cell? ⟨w2.heap.size, 1, none⟩ = some (.bool r0.op) ∧ w'.cell? ⟨w2.heap.size, 2, none⟩ = some (.string r0.nm) ∧ w'.cell? ⟨w2.heap.size, 3, none⟩ = some (.string r0.by_)) ∧ w'.cell? ⟨wo.heap.size, 0, none⟩ = some (.slice A' rM.L.length c') ∧ w'.cell? ⟨wo.heap.size, 1, none⟩ = some (.bool rM.op) ∧ w'.cell? ⟨wo.heap.size, 2, none⟩ = some (.string rM.nm) ∧ w'.cell? ⟨wo.heap.size, 3, none⟩ = some (.string rM.by_))
            (with_reducible exact HSA.out _ HM.out)
            (first
              | (go_at_call 15; (with_reducible refine Calls.mono (C1.out _ HM.out) ?_); rintro e w6 ⟨rfl, hb6⟩; have HM := Lib.hid (HM.out.below hb6); clear hb6)
              | (go_at_call 15; (with_reducible refine Calls.mono (C2.out _ HM.out) ?_); rintro e w6 ⟨rfl, hb6⟩; have HM := Lib.hid (HM.out.below hb6); clear hb6)
              | (go_at_call 24; (with_reducible refine Calls.mono (C3.out _ HM.out) ?_); rintro e w6 ⟨rfl, hb6⟩; have HM := Lib.hid (HM.out.below hb6); clear hb6)
              | (go_at_call 24; (with_reducible refine Calls.mono (C5.out _ HM.out) ?_); rintro e w6 ⟨rfl, hb6⟩; have HM := Lib.hid (HM.out.below hb6); clear hb6)
              | (go_at_call 25; (with_reducible refine Calls.mono (C4.out _ HM.out) ?_); rintro e w6 ⟨rfl, hb6⟩; have HM := Lib.hid (HM.out.below hb6); clear hb6))
          all_goals
            go_wp2_with fail
            have HBS := Lib.hid (below_drew HM.out.base)
            go_region_held3 (fun w' => (w'.cell? ⟨w.heap.size, 0, none⟩ = some (.int .i64 ea) ∧ w'.cell? ⟨w.heap.size, 1, none⟩ = some (.string da) ∧ w'.cell? ⟨w.heap.size, 2, none⟩ = some (.slice AA na ca)) ∧ (w'.cell? ⟨w.heap.size + 1, 0, none⟩ = some (.int .i64 eb) ∧ w'.cell? ⟨w.heap.size + 1, 1, none⟩ = some (.string db) ∧ w'.cell? ⟨w.heap.size + 1, 2, none⟩ = some (.slice AB nb cb)))
              (with_reducible exact HBX.out _ HBS.out)
              (first
                | (go_at_call 23; (with_reducible refine Calls.mono (C6.out _ HBS.out) ?_); rintro e w6 ⟨rfl, hb6⟩; have HBS := Lib.hid (HBS.out.trans (hb6.mono HBS.out.size)); clear hb6)
                | (go_at_call 13; (with_reducible refine Calls.mono (C7.out _ HBS.out) ?_); rintro e w6 ⟨rfl, hb6⟩; have HBS := Lib.hid (HBS.out.trans (hb6.mono HBS.out.size)); clear hb6)
                | (go_at_call 23; (with_reducible refine Calls.mono (C8.out _ HBS.out) ?_); rintro e w6 ⟨rfl, hb6⟩; have HBS := Lib.hid (HBS.out.trans (hb6.mono HBS.out.size)); clear hb6)
                | (go_at_call 18; (with_reducible refine Calls.mono (awake18 _) ?_); rintro e w6 ⟨rfl, hb6⟩; have HBS := Lib.hid (HBS.out.trans (hb6.mono HBS.out.size)); clear hb6))
            all_goals
              go_wp2_with fail
              go_ret
              exact ⟨rfl, HB0.out.trans (HBS.out.mono HB0.out.size)⟩
end Go.Proofs.Ytadagidjppgbkaa
