/- DeviceTorn: for all arguments the law returns true, and what it was handed reads as it did. No conditions. -/
import Derived.Test.YtncgechmloekbaaDvAll
import Derived.Laws.BytesArg
namespace Go.Proofs.Ytncgechmloekbaa
open Go.RowKit

theorem conv_bytes {w : World} {Bd : Nat} {v : Value} {xs : List Nat} (h : RBytes w Bd v xs) : ∃ s : ByteArray, s.size = xs.length ∧ ∀ W', Below Bd w W' → Sem.run Try.prog (convert 56 9 v) W' = .ok (.string s) W' := by
  obtain ⟨A, c, rfl, h2, h3, h4, h5⟩ := h
  by_cases h0 : 0 < xs.length
  · obtain ⟨b, o, rfl, hb, hc⟩ := h5 h0
    refine ⟨strOfNums (xs.map fun (n : Nat) => (n : Int)), by simp [strOfNums_size], fun W' hB => run_convert_bytes_arg (P := Try.prog) W' 56 5 Try.underlying56 Try.underlying5 b o xs.length c (xs.map fun (n : Nat) => (n : Int)) (by simp) (fun i hi => ?_) 9 Try.underlying9⟩
    rw [(hB.cell (p := ⟨b, o + i, none⟩) hb).trans (hc i hi)]
    simp [nth, hi]
  · have h1 : xs.length = 0 := by omega
    refine ⟨ByteArray.empty, by rw [h1]; rfl, fun W' _ => ?_⟩
    rw [h1]
    cases A with
    | none => exact run_convert_bytes_nil (P := Try.prog) W' 56 5 Try.underlying56 Try.underlying5 0 c 9 Try.underlying9
    | some ad =>
      rw [run_convert_bytes_string W' 56 9 5 _ 0 c Try.underlying56 Try.underlying5 Try.underlying9, run_bytesToString W' ad 0 c [] rfl]
      rfl
theorem accs_lit {W : World} {g : Nat} {a1 a2 : Dv.Acc} {t : TypeId} (h : W.heap[g]? = some (.cells #[.int .i64 a1.k, .int .i64 a1.b, .int .i64 a1.c, .string a1.s, .int .i64 a2.k, .int .i64 a2.b, .int .i64 a2.c, .string a2.s] t (0, 0))) (h1 : a1.s.size ≤ maxLen) (h2 : a2.s.size ≤ maxLen) :
    RAccs W W.heap.size (.slice (some ⟨g, 0, none⟩) 2 2) [a1, a2] := by
  refine ⟨_, 2, rfl, by simp, by simp [maxLen], fun i => ?_, fun _ => ⟨g, 0, rfl, lt_of_heap h, fun i hi => ?_⟩⟩
  · match i with
    | 0 => exact h1
    | 1 => exact h2
    | n + 2 => simp [Dv.nthA]; decide
  · have : i = 0 ∨ i = 1 := by simp at hi; omega
    rcases this with rfl | rfl
    · exact ⟨cell_block (i := 0) h rfl, cell_block (i := 1) h rfl, cell_block (i := 2) h rfl, cell_block (i := 3) h rfl⟩
    · exact ⟨cell_block (i := 4) h rfl, cell_block (i := 5) h rfl, cell_block (i := 6) h rfl, cell_block (i := 7) h rfl⟩
theorem flts_lit {W : World} {g : Nat} {a1 a2 : Dv.Flt} {t : TypeId} (h : W.heap[g]? = some (.cells #[.bool a1.cut, .int .i64 a1.nb, .bool a1.noise, .bool a2.cut, .int .i64 a2.nb, .bool a2.noise] t (0, 0))) :
    RFlts W W.heap.size (.slice (some ⟨g, 0, none⟩) 2 2) [a1, a2] := by
  refine ⟨_, 2, rfl, by simp, by simp [maxLen], fun _ => ⟨g, 0, rfl, lt_of_heap h, fun i hi => ?_⟩⟩
  have : i = 0 ∨ i = 1 := by simp at hi; omega
  rcases this with rfl | rfl
  · exact ⟨cell_block (i := 0) h rfl, cell_block (i := 1) h rfl, cell_block (i := 2) h rfl⟩
  · exact ⟨cell_block (i := 3) h rfl, cell_block (i := 4) h rfl, cell_block (i := 5) h rfl⟩
namespace Dv
def sect (s : ByteArray) : ByteArray := s ++ (Fm.Fl.full 0).extract s.size 256
theorem sect_size {s : ByteArray} (h : s.size ≤ 256) : (sect s).size = 256 := by
  simp [sect, ByteArray.size_append, ByteArray.size_extract, Fm.Fl.full_size]; omega
def r0 : Nat → Int := fun _ => 0
theorem ok1 : Fz.newOK [1] = true := by decide
theorem n1 : Fz.newE [1] = 0 := by decide
theorem n2 : newFlash [1] = M0 := by rw [newFlash, ok1, if_pos rfl]; rfl
theorem n3 : newRoot [1] r0 = r0 := by rw [newRoot, ok1, if_pos rfl]
theorem valid1 : Fz.valid (Fz.newF [1]) = true := by decide
/-- two writes to one sector, the second one cut or not -/
theorem torn (f : List (List Nat)) (k : Nat) (hk : k < 128) (was is : ByteArray) (hw : was.size = 256) (hi : is.size = 256) (x : Flt) :
    ∃ M out, runAll [⟨4, 0, k, was⟩, ⟨4, 0, k, is⟩] [⟨false, 0, false⟩, x] f M0 = ⟨f, M, out, 0⟩ ∧ M.length = 128 ∧ Fm.nthS M k = is.extract 0 (if x.cut then (min (max x.nb 0) 256).toNat else 256) ++ was.extract (if x.cut then (min (max x.nb 0) 256).toNat else 256) 256 ∧ out.length = if x.cut then 1 else 2 := by
  have hE0 : E f M0 ⟨4, 0, k, was⟩ = 0 := by
    show doE f M0 4 0 k was = 0
    have h := Fm.Fl.writeE_yes (f := M0) (k := k) (b := was) (by rw [len0]; exact hk) hw
    simp [doE, kindOK, runE, h]
  have hM1 : M f M0 ⟨4, 0, k, was⟩ ⟨false, 0, false⟩ = M0.set k was := by
    show doM f M0 4 0 k was false 0 = _
    have h := Fm.Fl.writeE_yes (f := M0) (k := k) (b := was) (by rw [len0]; exact hk) hw
    have hd : doneB f M0 4 0 k was = true := by simp [doneB, kindOK, runE, h]
    rw [doM, hd, if_pos rfl, runM, if_pos rfl, Fm.Fl.write_yes_eq _ (by rw [len0]; exact hk) hw]
    simp [Fm.Fl.merge, cutOf]
  have hF1 : F f M0 ⟨4, 0, k, was⟩ ⟨false, 0, false⟩ = f := by
    show doF f M0 4 0 k was false = f
    simp [doF, runF]
  have hl1 : (M0.set k was).length = 128 := by rw [List.length_set, len0]
  have hE1 : E f (M0.set k was) ⟨4, 0, k, is⟩ = 0 := by
    show doE f (M0.set k was) 4 0 k is = 0
    have h := Fm.Fl.writeE_yes (f := M0.set k was) (k := k) (b := is) (by rw [hl1]; exact hk) hi
    simp [doE, kindOK, runE, h]
  have hM2 : M f (M0.set k was) ⟨4, 0, k, is⟩ x = (M0.set k was).set k (Fm.Fl.merge was is (cutOf x.cut x.nb)) := by
    show doM f (M0.set k was) 4 0 k is x.cut x.nb = _
    have h := Fm.Fl.writeE_yes (f := M0.set k was) (k := k) (b := is) (by rw [hl1]; exact hk) hi
    have hd : doneB f (M0.set k was) 4 0 k is = true := by simp [doneB, kindOK, runE, h]
    rw [doM, hd, if_pos rfl, runM, if_pos rfl, Fm.Fl.write_yes_eq _ (by rw [hl1]; exact hk) hi, Fm.Fl.nthS_set_eq _ (by rw [len0]; exact hk)]
  have hF2 : F f (M0.set k was) ⟨4, 0, k, is⟩ x = f := by
    show doF f (M0.set k was) 4 0 k is x.cut = f
    simp [doF, runF]
  have hmerge : Fm.Fl.merge was is (cutOf x.cut x.nb) = is.extract 0 (if x.cut then (min (max x.nb 0) 256).toNat else 256) ++ was.extract (if x.cut then (min (max x.nb 0) 256).toNat else 256) 256 := by
    have hfull : is = is.extract 0 256 ++ was.extract 256 256 := by
      rw [← hi]; simp
    cases hc : x.cut
    · simp only [cutOf, Bool.false_eq_true, if_false, Fm.Fl.merge]
      rw [if_pos (by omega)]
      exact hfull
    · simp only [cutOf, if_true, Fm.Fl.merge]
      by_cases h : 256 ≤ min (max x.nb 0) 256
      · have e : min (max x.nb 0) 256 = 256 := by omega
        rw [e, if_pos (by omega)]
        exact hfull
      · rw [if_neg (by omega), hw]
        have e : (min (min (max x.nb 0) 256) ((256 : Nat) : Int)).toNat = (min (max x.nb 0) 256).toNat := by omega
        rw [e]
  have hset : ((M0.set k was).set k (Fm.Fl.merge was is (cutOf x.cut x.nb))).length = 128 := by rw [List.length_set, hl1]
  have hat : Fm.nthS ((M0.set k was).set k (Fm.Fl.merge was is (cutOf x.cut x.nb))) k = Fm.Fl.merge was is (cutOf x.cut x.nb) := Fm.Fl.nthS_set_eq _ (by rw [hl1]; exact hk)
  have hr : runAll [⟨4, 0, k, was⟩, ⟨4, 0, k, is⟩] [⟨false, 0, false⟩, x] f M0 = if x.cut then ⟨f, (M0.set k was).set k (Fm.Fl.merge was is (cutOf x.cut x.nb)), [(V f M0 ⟨4, 0, k, was⟩ ⟨false, 0, false⟩, B f M0 ⟨4, 0, k, was⟩ ⟨false, 0, false⟩)], 0⟩
      else ⟨f, (M0.set k was).set k (Fm.Fl.merge was is (cutOf x.cut x.nb)), [(V f M0 ⟨4, 0, k, was⟩ ⟨false, 0, false⟩, B f M0 ⟨4, 0, k, was⟩ ⟨false, 0, false⟩), (V f (M0.set k was) ⟨4, 0, k, is⟩ x, B f (M0.set k was) ⟨4, 0, k, is⟩ x)], 0⟩ := by
    have a0 : nthA [⟨4, 0, k, was⟩, ⟨4, 0, k, is⟩] 0 = ⟨4, 0, k, was⟩ := rfl
    have a1 : nthA [⟨4, 0, k, was⟩, ⟨4, 0, k, is⟩] 1 = ⟨4, 0, k, is⟩ := rfl
    have t0 : nthT [⟨false, 0, false⟩, x] 0 = ⟨false, 0, false⟩ := rfl
    have t1 : nthT [⟨false, 0, false⟩, x] 1 = x := rfl
    show runFrom _ _ 2 0 f M0 [] = _
    rw [runFrom, a0, t0, if_pos hE0, if_neg (by simp), hM1, hF1, runFrom, a1, t1, if_pos hE1, hM2, hF2]
    rfl
  cases hc : x.cut
  · rw [hc] at hr
    exact ⟨_, _, hr, by rw [hc] at hset; exact hset, by rw [hc] at hat hmerge; rw [hat, hmerge], rfl⟩
  · rw [hc] at hr
    exact ⟨_, _, hr, by rw [hc] at hset; exact hset, by rw [hc] at hat hmerge; rw [hat, hmerge], rfl⟩
end Dv

set_option maxRecDepth 100000 in
set_option maxHeartbeats 4000000 in
theorem lawTorn {w : World} (v0 : Value) (xs : List Nat) (h0 : RBytes w w.heap.size v0 xs) (v1 : Value) (ys : List Nat) (h1 : RBytes w w.heap.size v1 ys) (n2 : Int) (cut : Bool) (nb : Int) (noise : Bool) (hn2 : (Lit.int .u8 n2).wf = true) :
    Calls Try.prog 6 #[v0, v1, .int .u8 n2, .agg #[.bool cut, .int .i64 nb, .bool noise]] w fun e w' => e = .returned (.bool true) ∧ Below w.heap.size w w' := by
  have hw1 : 0 ≤ n2 ∧ n2 ≤ 255 := by simpa [Lit.wf, IntKind.min, IntKind.max, IntKind.signed, IntKind.bits] using hn2
  obtain ⟨kn, rfl⟩ := Int.eq_ofNat_of_zero_le hw1.1
  obtain ⟨os, hos, hcv0⟩ := conv_bytes h0
  obtain ⟨ns, hns, hcv1⟩ := conv_bytes h1
  obtain ⟨A0, c0, rfl, hl0, hc0⟩ := h0.form'
  obtain ⟨A1, c1, rfl, hl1, hc1⟩ := h1.form'
  unfold maxLen at hc0 hc1
  have HC0 := Lib.hid hcv0
  have HC1 := Lib.hid hcv1
  have HOS := Lib.hid hos
  have HNS := Lib.hid hns
  obtain ⟨T, N, R, K, L⟩ := letters
  clear h0 h1 hcv0 hcv1 hos hns hn2
  go_enter Try.func6, Try.ntmps6
  simp only [L.load, L.store]
  have la := L.agg
  have lz := L.size
  have HL := Lib.hid L
  clear L
  go_upto_region 1 with fail
  have hB0 : Below w.heap.size w (w.alloc (.cells #[.bool cut, .int .i64 nb, .bool noise] 35)) := Below.new _
  have QF := heap_alloc_new w (.cells #[.bool cut, .int .i64 nb, .bool noise] 35)
  obtain ⟨W0, hW0⟩ : ∃ W, W = w.alloc (.cells #[.bool cut, .int .i64 nb, .bool noise] 35) := ⟨_, rfl⟩
  rw [← hW0] at hB0 QF ⊢
  clear hW0
  have HB := hB0
  clear hB0
  go_wp2_with fail
  refine (sanity_any _).mono ?_
  rintro e w1 ⟨rfl, hb1⟩
  have QF := (hb1.block _ (lt_of_heap QF)).trans QF
  have HB := HB.trans (hb1.mono HB.size)
  clear hb1
  by_cases hx : xs.length ≤ 256
  · by_cases hy : ys.length ≤ 256
    · have e1 : decide ((256 : Int) < (xs.length : Int)) = false := by simp; omega
      have e2 : decide (256 < xs.length) = false := by simp; omega
      have e3 : decide ((256 : Int) < (ys.length : Int)) = false := by simp; omega
      have e4 : decide (256 < ys.length) = false := by simp; omega
      have hfs := Fm.Fl.full_size 0
      have i1 : (0 : Int) ≤ (xs.length : Int) := by omega
      have z0 : os.size ≤ 256 := by rw [HOS.out]; exact hx
      have z1 : ns.size ≤ 256 := by rw [HNS.out]; exact hy
      have q1 : os.size + ((Fm.Fl.full 0).extract xs.length 256).size ≤ 9223372036854775807 := by simp [ByteArray.size_extract, hfs]; omega
      have q2 : os.size + (256 - xs.length) ≤ 9223372036854775807 := by omega
      have q3 : ns.size + ((Fm.Fl.full 0).extract ys.length 256).size ≤ 9223372036854775807 := by simp [ByteArray.size_extract, hfs]; omega
      have q4 : ns.size + (256 - ys.length) ≤ 9223372036854775807 := by omega
      have q5 : ¬ (9223372036854775807 < os.size + (256 - xs.length)) := by omega
      have q6 : ¬ (9223372036854775807 < ns.size + (256 - ys.length)) := by omega
      have i2 : (0 : Int) ≤ (ys.length : Int) := by omega
      have i5 : (xs.length : Int) ≤ ((Fm.Fl.full 0).size : Int) := by rw [hfs]; omega
      have i6 : (ys.length : Int) ≤ ((Fm.Fl.full 0).size : Int) := by rw [hfs]; omega
      have i8 : (xs.length : Int) ≤ 256 := by omega
      have i9 : (ys.length : Int) ≤ 256 := by omega
      go_upto_region 4 with fail
      have hU0 : Und w1 w1 := ⟨Below.refl _ _⟩
      have SU : Hid (∀ W', Und w1 W' → Sem.run Try.prog (convert 56 9 (.slice A0 xs.length c0)) W' = .ok (.string os) W' ∧ Und w1 W') := Lib.hid (fun W' h => ⟨HC0.out W' (HB.trans (h.keeps.mono HB.size)), h⟩)
      go_cut [10] (fun v Wc => v = .string (Dv.sect os) ∧ Und w1 Wc)
      case first =>
        go_region_held3 (fun W' => Sem.run Try.prog (convert 56 9 (.slice A0 xs.length c0)) W' = .ok (.string os) W' ∧ Und w1 W') (first | assumption | exact SU.out _ hU0.drew | exact SU.out _ hU | (go_split_ands; exact SU.out _ (by assumption))) ((go_at_call 19; go_split_ands; (with_reducible refine (Fm.full_any 0 _).mono ?_); rintro e w6 ⟨rfl, hb6⟩; have hU := Und.below (by assumption) hb6))
        all_goals
          go_wp2_with fail
          go_meet
          exact ⟨by rw [Dv.sect, HOS.out], hU⟩
      case rest =>
        obtain ⟨rfl, hU⟩ := hcut
        rename World => w2
        have QF := (hU.keeps.block _ (lt_of_heap QF)).trans QF
        have HB := HB.trans (hU.keeps.mono HB.size)
        clear hU hU0 SU
        go_upto_region 5 with fail
        have hU0 : Und w2 w2 := ⟨Below.refl _ _⟩
        have SU : Hid (∀ W', Und w2 W' → Sem.run Try.prog (convert 56 9 (.slice A1 ys.length c1)) W' = .ok (.string ns) W' ∧ Und w2 W') := Lib.hid (fun W' h => ⟨HC1.out W' (HB.trans (h.keeps.mono HB.size)), h⟩)
        go_cut [11] (fun v Wc => v = .string (Dv.sect ns) ∧ Und w2 Wc)
        case first =>
          go_region_held3 (fun W' => Sem.run Try.prog (convert 56 9 (.slice A1 ys.length c1)) W' = .ok (.string ns) W' ∧ Und w2 W') (first | assumption | exact SU.out _ hU0.drew | exact SU.out _ hU | (go_split_ands; exact SU.out _ (by assumption))) ((go_at_call 19; go_split_ands; (with_reducible refine (Fm.full_any 0 _).mono ?_); rintro e w6 ⟨rfl, hb6⟩; have hU := Und.below (by assumption) hb6))
          all_goals
            go_wp2_with fail
            go_meet
            exact ⟨by rw [Dv.sect, HNS.out], hU⟩
        case rest =>
          obtain ⟨rfl, hU⟩ := hcut
          rename World => w3
          have QF := (hU.keeps.block _ (lt_of_heap QF)).trans QF
          have HB := HB.trans (hU.keeps.mono HB.size)
          clear hU hU0 SU
          clear q1 q2 q3 q4 q5 q6 hfs i1 i2 i5 i6 i8 i9 e1 e2 e3 e4
          have i3 : (0 : Int) ≤ (kn : Int) := by omega
          obtain ⟨kk, hkk, hk128⟩ : ∃ kk : Nat, ((kn : Int) % 128) = (kk : Int) ∧ kk < 128 := ⟨kn % 128, by omega, by omega⟩
          go_wp2_with fail
          simp only [hkk]
          clear hkk i3 hw1
          refine (newC Dv.r0 _ [1] _ (ints_lit (xs := [1]) (heap_alloc_new _ _) (by decide) rfl)).mono ?_
          rintro e w4 ⟨cs4, rfl, hv4, hb4⟩
          rw [Dv.n1]
          rw [Dv.n2, Dv.n3] at hv4
          have hv4 := hv4.b
          have hb4 : Below w3.heap.size w3 w4 := (Below.new _).trans (hb4.mono (by simp))
          have QF := (hb4.block _ (lt_of_heap QF)).trans QF
          have HB := HB.trans (hb4.mono HB.size)
          have z4 := sz18 T N R K HL.out (HwVal.size hv4)
          have s4 := st1 (HwVal.size hv4) (HwVal.ones hv4) #[.slice none 0 0, .slice none 0 0, .int .u8 0, .int .u8 0, .int .u8 0, .int .u8 0, .int .u8 0, .int .u8 0, .int .u8 0, .int .u8 0, .int .u8 0, .int .u8 0, .int .u8 0, .int .u8 0, .int .u8 0, .int .u8 0, .int .u8 0, .int .u8 0] rfl
          go_upto_region 8 with fail
          have hn4 : Below w4.heap.size w4 (w4.alloc (.cells cs4 31)) := Below.new _
          have QF := (hn4.block _ (lt_of_heap QF)).trans QF
          have HB := HB.trans (hn4.mono HB.size)
          have D4 : Dev (w4.alloc (.cells cs4 31)) w4.heap.size cs4 _ _ _ := Dev.new hv4
          obtain ⟨W4, hW4⟩ : ∃ W, W = w4.alloc (.cells cs4 31) := ⟨_, rfl⟩
          obtain ⟨p4, hp4⟩ : ∃ p, p = w4.heap.size := ⟨_, rfl⟩
          rw [← hW4] at D4 QF HB
          rw [← hp4] at D4
          rw [← hW4, ← hp4]
          clear hW4 hp4 hn4 hv4 hb4 s4 z4
          have l4 := HL.out.ld D4.lies (HwVal.size D4.val)
          have f0 := cell_block (i := 0) QF rfl
          have f1 := cell_block (i := 1) QF rfl
          have f2 := cell_block (i := 2) QF rfl
          have hqf := lt_of_heap QF
          have hp4 := D4.lt
          go_wp2_with fail
          have hos2 : (Dv.sect os).size = 256 := Dv.sect_size z0
          have hns2 : (Dv.sect ns).size = 256 := Dv.sect_size z1
          obtain ⟨MM, out, hrun, hml, hat, hol⟩ := Dv.torn (Fz.newF [1]) kk hk128 (Dv.sect os) (Dv.sect ns) hos2 hns2 ⟨cut, nb, noise⟩
          refine (all_any cs4 (Fz.newF [1]) Dv.M0 Dv.r0 _ _ [⟨4, 0, kk, Dv.sect os⟩, ⟨4, 0, kk, Dv.sect ns⟩] [⟨false, 0, false⟩, ⟨cut, nb, noise⟩] _ ((D4.val.below (Below.new _)).below (Below.new _)) Dv.valid1 (by rw [Dv.len0]; decide) (accs_lit (blk_old (heap_alloc_new W4 _)) (by rw [hos2]; decide) (by rw [hns2]; decide)) (flts_lit (heap_two _ _ _)) (by simp)).mono ?_
          rintro e w5 ⟨cs5, v5, rfl, hv5, hr5, hb5⟩
          rw [hrun] at hv5 hr5 ⊢
          have hb5 : Below W4.heap.size W4 w5 := (Below.new _).trans (((Below.new _).mono (by simp)).trans (hb5.mono (by simp; omega)))
          obtain ⟨A5, c5, hv5f⟩ : ∃ A c, v5 = .slice A out.length c := by obtain ⟨A, c, h, _⟩ := hr5; exact ⟨A, c, h⟩
          subst hv5f
          have QF := (hb5.block _ hqf).trans QF
          have HB := HB.trans (hb5.mono HB.size)
          have hv5 : HwB w5 cs5 (Fz.newF [1]) MM Dv.r0 := hv5
          have z5 := sz18 T N R K HL.out (HwVal.size hv5)
          have s5 := st1 (HwVal.size hv5) (HwVal.ones hv5) #[.slice none 0 0, .slice none 0 0, .int .u8 0, .int .u8 0, .int .u8 0, .int .u8 0, .int .u8 0, .int .u8 0, .int .u8 0, .int .u8 0, .int .u8 0, .int .u8 0, .int .u8 0, .int .u8 0, .int .u8 0, .int .u8 0, .int .u8 0, .int .u8 0] rfl
          have HAT := Lib.hid hat
          have HOL := Lib.hid hol
          have HML := Lib.hid hml
          clear hrun hr5 hb5 f0 f1 f2 l4 hp4 D4 hat hol hml
          dsimp only
          go_upto_region 9 with fail
          have hn5 : Below w5.heap.size w5 (w5.alloc (.cells cs5 31)) := Below.new _
          have QF := (hn5.block _ (lt_of_heap QF)).trans QF
          have HB := HB.trans (hn5.mono HB.size)
          have D5 : Dev (w5.alloc (.cells cs5 31)) w5.heap.size cs5 _ _ _ := Dev.new hv5
          obtain ⟨W5, hW5⟩ : ∃ W, W = w5.alloc (.cells cs5 31) := ⟨_, rfl⟩
          obtain ⟨p5, hp5⟩ : ∃ p, p = w5.heap.size := ⟨_, rfl⟩
          rw [← hW5] at D5 QF HB
          rw [← hp5] at D5
          rw [← hW5, ← hp5]
          clear hW5 hp5 hn5 hv5 s5 z5 hqf
          obtain ⟨u5, hu5, hk5⟩ := HwVal.strs D5.val
          obtain ⟨A6, c6, rfl⟩ := hk5.form_
          have hm5 := hk5.plain
          have hkM : kk < MM.length := by rw [HML.out]; exact hk128
          obtain ⟨bm, om, rfl, hbm, hcm, -⟩ := hm5.at_ hkM
          have x1 := cell_block (i := 1) D5.lies hu5
          have eM : ((MM.length : Int) != 128) = false := by have := HML.out; simp; omega
          have f0 := cell_block (i := 0) QF rfl
          have f1 := cell_block (i := 1) QF rfl
          clear hk5 hm5 hu5 D5 hbm
          have i7 : (0 : Int) ≤ (kk : Int) := by omega
          have j1 : (0 : Int) ≤ min (max nb 0) 256 := by omega
          have j2 : min (max nb 0) 256 ≤ (256 : Int) := by omega
          cases cut
          · go_upto_region 16 with fail
            have hat := HAT.out
            have hol := HOL.out
            simp only [Bool.false_eq_true, if_false] at hat hol
            have c1 : ((Dv.sect ns).extract 0 256).size + ((Dv.sect os).extract 256 256).size ≤ 9223372036854775807 := by simp [ByteArray.size_extract]; omega
            have c2 : ((out.length : Int) == 2) = true := by rw [hol]; rfl
            go_quiet (fail)
            go_wp2; go_ret
            exact ⟨rfl, by first | exact HB | exact below_drewN HB _⟩
          · go_upto_region 16 with fail
            have hat := HAT.out
            have hol := HOL.out
            simp only [if_true] at hat hol
            have c1 : ((Dv.sect ns).extract 0 (min (max nb 0) 256).toNat).size + ((Dv.sect os).extract (min (max nb 0) 256).toNat 256).size ≤ 9223372036854775807 := by simp [ByteArray.size_extract]; omega
            have c2 : ((out.length : Int) == 1) = true := by rw [hol]; rfl
            go_quiet (fail)
            go_wp2; go_ret
            exact ⟨rfl, by first | exact HB | exact below_drewN HB _⟩
    · have e1 : decide ((256 : Int) < (xs.length : Int)) = false := by simp; omega
      have e2 : decide (256 < xs.length) = false := by simp; omega
      have e3 : decide ((256 : Int) < (ys.length : Int)) = true := by simp; omega
      have e4 : decide (256 < ys.length) = true := by simp; omega
      go_wp2
      go_ret
      exact ⟨rfl, HB⟩
  · have e1 : decide ((256 : Int) < (xs.length : Int)) = true := by simp; omega
    have e2 : decide (256 < xs.length) = true := by simp; omega
    go_wp2
    go_ret
    exact ⟨rfl, HB⟩


open Go.ChangeShapes Go.WideShapes Go.ChangeAt Go.Deep

namespace lawTornC
set_option maxRecDepth 100000 in
theorem lifted (os : Os) (started : os.Started) (H : Type) (enc : TypeId × Value → H) :
    ReturnsInHanded {} Try.checked os 6 .any (Rows.deviceTornSpec.pre6 enc Try.prog Try.f6 Rows.deviceTornRow.domain false) (Rows.deviceTornSpec.post enc Try.prog Try.f6 false true false false) := by
  refine returnsInHanded_of_change (C := Try.checked) own started (by kernel_rfl) Try.func6
    (ChangeSpec.witness6 (enc := enc) (C := Try.checked) false ⟨#[], #[.slice none 0 0, .slice none 0 0, .int .u8 0, .agg #[.bool false, .int .i64 0, .bool false]], []⟩ 8 (by kernel_rfl) (by kernel_rfl) (by kernel_rfl) (by kernel_rfl)) ?_
  intro W base args ds gs before hval0 hW hcnd _
  have hval : ∀ (j : Nat) t v, Try.f6.params[j]? = some t → args[j]? = some v → Value.okWide Try.prog W .any base t v := hval0
  have hW' := hW
  obtain ⟨p, q, hA0, hV, rfl, hfz, hnd⟩ := hW
  have hA : DataW.TrodAll enc Try.prog W 0 (fun _ => true) true Try.f6.params.toList args.toList ds p := hA0
  rw [Try.params6] at hA hval
  obtain ⟨v0, vs0, d0, ds0, p0, q0, hargs, rfl, rfl, h0, r0⟩ := trodAll_cons hA
  obtain ⟨v1, vs1, d1, ds1, p1, q1, rfl, rfl, rfl, h1, r1⟩ := trodAll_cons r0
  obtain ⟨v2, vs2, d2, ds2, p2, q2, rfl, rfl, rfl, h2, r2⟩ := trodAll_cons r1
  obtain ⟨v3, vs3, d3, ds3, p3, q3, rfl, rfl, rfl, h3, r3⟩ := trodAll_cons r2
  obtain ⟨rfl, rfl, rfl⟩ := trodAll_nil r3
  obtain rfl : args = #[v0, v1, v2, v3] := by cases args; simp_all
  obtain ⟨rfl, rfl⟩ := trodVars_none hV
  have k0 := h0
  have lt0 : ∀ x ∈ p0, x.block < W.heap.size := by obtain ⟨m, hm⟩ := k0; exact DataW.trod_lt m _ _ _ hm
  obtain ⟨b0, n0, c0, rfl⟩ := okWide_slice Try.underlying56 (hval 0 56 v0 rfl rfl)
  obtain ⟨u0, x0, e0, s0⟩ : ∃ v f, (Value.slice b0 n0 c0).cells.toList = [v] ∧ RBytes W W.heap.size v f := by obtain ⟨fuel, hf⟩ := h0; exact reads_bytes hf
  obtain rfl : u0 = Value.slice b0 n0 c0 := by simpa [Value.cells] using e0.symm
  have k1 := h1
  have lt1 : ∀ x ∈ p1, x.block < W.heap.size := by obtain ⟨m, hm⟩ := k1; exact DataW.trod_lt m _ _ _ hm
  obtain ⟨b1, n1, c1, rfl⟩ := okWide_slice Try.underlying56 (hval 1 56 v1 rfl rfl)
  obtain ⟨u1, x1, e1, s1⟩ : ∃ v f, (Value.slice b1 n1 c1).cells.toList = [v] ∧ RBytes W W.heap.size v f := by obtain ⟨fuel, hf⟩ := h1; exact reads_bytes hf
  obtain rfl : u1 = Value.slice b1 n1 c1 := by simpa [Value.cells] using e1.symm
  obtain ⟨a2, rfl, rfl, rfl, w2⟩ := open_int Try.underlying5 (hval 2 5 v2 rfl rfl) h2
  have k3 := h3
  have lt3 : ∀ x ∈ p3, x.block < W.heap.size := by obtain ⟨m, hm⟩ := k3; exact DataW.trod_lt m _ _ _ hm
  obtain ⟨cs3, rfl, _⟩ := okWide_struct Try.underlying35 (hval 3 35 v3 rfl rfl)
  obtain ⟨zt3, zn3, zo3, e3⟩ : ∃ (zt3 : Bool) (zn3 : Int) (zo3 : Bool), (Value.agg cs3).cells.toList = [.bool zt3, .int .i64 zn3, .bool zo3] := by obtain ⟨fuel, hf⟩ := h3; exact reads_flt hf
  obtain rfl : cs3 = #[.bool zt3, .int .i64 zn3, .bool zo3] := by cases cs3; simpa [Value.cells] using e3
  clear hA0 hval0
  refine (lawTorn (w := W) _ x0 s0 _ x1 s1 a2 zt3 zn3 zo3 w2).mono fun e W' ⟨he, bel⟩ => ?_
  subst he
  exact ⟨_, rfl, _, _, _, [], _, [], hW', trodAll_mk1 (shut_bool Try.underlying4 _), (trodAll_cons_mk (Below.trod laidOut (by kernel_rfl) (of_decide_eq_true (by kernel_rfl)) k0 bel lt0) (trodAll_cons_mk (Below.trod laidOut (by kernel_rfl) (of_decide_eq_true (by kernel_rfl)) k1 bel lt1) (trodAll_cons_mk (shut_int Try.underlying5 w2) (trodAll_cons_mk (Below.trod laidOut (by kernel_rfl) (of_decide_eq_true (by kernel_rfl)) k3 bel lt3) trodAll_mk0)))), rfl, bel.frame _, fun h => by cases h⟩

theorem over : Rows.deviceTornRow.holds Try.pinned (OpenSpec.ofChange Rows.deviceTornSpec) :=
  OpenClaim.holds_of_wide 6 Try.f6 rfl rfl rfl rfl rfl rfl rfl ⟨rfl, rfl, rfl, rfl, rfl⟩ rfl rfl rfl rfl rfl (by kernel_rfl) Try.func6 (by kernel_rfl)
    (of_decide_eq_true (by kernel_rfl)) (by unfold Func.isWrapper; first | (rw [if_pos (by decide +kernel)]; kernel_rfl) | (rw [if_neg (by decide +kernel)]; exact ⟨rfl, rfl⟩))
    (fun os started H enc _ => lifted os started H enc)
end lawTornC

theorem deviceTorn_holds : Rows.DeviceTornSaid := lawTornC.over

end Go.Proofs.Ytncgechmloekbaa
