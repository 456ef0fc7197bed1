/- Chapter 38: package sha: Sum over a message of one block. | Chapter 38: package sha: Digest; manifest.StageDigest. -/
import Derived.Test.YtdeccekeknlnoaaGreatDoorJShC
import Derived.Test.YtdeccekeknlnoaaGreatDoorJShF
import Derived.Test.YtdeccekeknlnoaaGreatDoorJPoLet
import Derived.Laws.EntriesVeiled
namespace Go.Proofs.YtdeccekeknlnoaaGreatDoor
open Go.RowKit Go.Shelf
attribute [local go_sem] Oper.semAt_some
/-- the message of one block -/
def pad (bs : List Nat) : List Nat := bs ++ 128 :: List.replicate (55 - bs.length) 0 ++ beB (8 * bs.length) 8
theorem pad_len {bs : List Nat} (h : bs.length ≤ 55) : (pad bs).length = 64 := by simp [pad, beB_len]; omega
theorem nth_lt {l : List Nat} (h : ∀ x ∈ l, x < 256) (i : Nat) : nth l i < 256 := by
  unfold nth
  rw [List.getD_eq_getElem?_getD]
  cases e : l[i]? with
  | none => simp
  | some x => exact h x (List.mem_of_getElem? e)
theorem beB_lt (n m : Nat) : ∀ x ∈ beB n m, x < 256 := by
  intro x hx
  simp only [beB, List.mem_map] at hx
  obtain ⟨j, _, rfl⟩ := hx
  exact Nat.mod_lt _ (by decide)
theorem pad_byte {bs : List Nat} (h : ∀ x ∈ bs, x < 256) : ∀ i, nth (pad bs) i < 256 := nth_lt (fun x hx => by
  simp only [pad, List.mem_append, List.mem_cons, List.mem_replicate] at hx
  rcases hx with (hx | hx | ⟨_, hx⟩) | hx
  · exact h x hx
  · omega
  · omega
  · exact beB_lt _ _ x hx)
def words8 (v : V8) : List Nat := v.list.flatMap fun x => beB x.toNat 4
/-- what package sha reads of the world: its constants and its start -/
structure ShaG (w : World) (Ks : List Int) (st : V8) : Prop where
  len : Ks.length = 64
  ks : w.heap[3]? = some (.cells (u32c 64 Ks) 242 (0, 0))
  st : w.heap[1]? = some (.cells st.cells 181 (0, 0))
  size : 15 ≤ w.heap.size
theorem ShaG.below {w w' : World} {Ks : List Int} {st : V8} (h : ShaG w Ks st) {B : Nat} (hb : Below B w w') (hB : 15 ≤ B) : ShaG w' Ks st :=
  ⟨h.len, (hb.block _ (by omega)).trans h.ks, (hb.block _ (by omega)).trans h.st, Nat.le_trans h.size hb.size⟩
theorem add32_nat (x y : Int) : ∃ n : Nat, add32 x y = n ∧ n < 4294967296 := by
  refine ⟨(add32 x y).toNat, ?_, ?_⟩ <;> (unfold add32; rw [IntKind.wrap_u32]; omega)
theorem words_of (Ks : List Int) (st : V8) (m : List Nat) : ∃ a b c d e f g h : Nat, compressV Ks st m = ⟨a, b, c, d, e, f, g, h⟩ ∧
    words8 (compressV Ks st m) = [] ++ beB a 4 ++ beB b 4 ++ beB c 4 ++ beB d 4 ++ beB e 4 ++ beB f 4 ++ beB g 4 ++ beB h 4 ∧
    IntKind.u64.wrap (a : Int) = a ∧ IntKind.u64.wrap (b : Int) = b ∧ IntKind.u64.wrap (c : Int) = c ∧ IntKind.u64.wrap (d : Int) = d ∧ IntKind.u64.wrap (e : Int) = e ∧ IntKind.u64.wrap (f : Int) = f ∧ IntKind.u64.wrap (g : Int) = g ∧ IntKind.u64.wrap (h : Int) = h := by
  unfold compressV V8.add
  generalize rnds Ks (wl m 64) st 64 = v
  obtain ⟨a, ha, la⟩ := add32_nat v.a st.a
  obtain ⟨b, hb, lb⟩ := add32_nat v.b st.b
  obtain ⟨c, hc, lc⟩ := add32_nat v.c st.c
  obtain ⟨d, hd, ld⟩ := add32_nat v.d st.d
  obtain ⟨e, he, le⟩ := add32_nat v.e st.e
  obtain ⟨f, hf, lf⟩ := add32_nat v.f st.f
  obtain ⟨g, hg, lg⟩ := add32_nat v.g st.g
  obtain ⟨h, hh, lh⟩ := add32_nat v.h st.h
  rw [ha, hb, hc, hd, he, hf, hg, hh]
  refine ⟨a, b, c, d, e, f, g, h, rfl, by simp [words8, V8.list], ?_, ?_, ?_, ?_, ?_, ?_, ?_, ?_⟩ <;> (rw [IntKind.wrap_u64]; omega)
theorem put8_other {W : World} {b k : Nat} {y0 y1 y2 y3 y4 y5 y6 y7 : Value} (h : k ≠ b) : ((((((((W.setCell ⟨b, 0, none⟩ y0).setCell ⟨b, 1, none⟩ y1).setCell ⟨b, 2, none⟩ y2).setCell ⟨b, 3, none⟩ y3).setCell ⟨b, 4, none⟩ y4).setCell ⟨b, 5, none⟩ y5).setCell ⟨b, 6, none⟩ y6).setCell ⟨b, 7, none⟩ y7).heap[k]? = W.heap[k]? := by
  rw [sset_other _ _ _ _ _ h, sset_other _ _ _ _ _ h, sset_other _ _ _ _ _ h, sset_other _ _ _ _ _ h, sset_other _ _ _ _ _ h, sset_other _ _ _ _ _ h, sset_other _ _ _ _ _ h, sset_other _ _ _ _ _ h]
theorem put8_below {W : World} {b : Nat} {y0 y1 y2 y3 y4 y5 y6 y7 : Value} : Below b W ((((((((W.setCell ⟨b, 0, none⟩ y0).setCell ⟨b, 1, none⟩ y1).setCell ⟨b, 2, none⟩ y2).setCell ⟨b, 3, none⟩ y3).setCell ⟨b, 4, none⟩ y4).setCell ⟨b, 5, none⟩ y5).setCell ⟨b, 6, none⟩ y6).setCell ⟨b, 7, none⟩ y7) :=
  ((((((((Below.refl b W).setCell (p := ⟨b, 0, none⟩) (Nat.le_refl _) y0).setCell (p := ⟨b, 1, none⟩) (Nat.le_refl _) y1).setCell (p := ⟨b, 2, none⟩) (Nat.le_refl _) y2).setCell (p := ⟨b, 3, none⟩) (Nat.le_refl _) y3).setCell (p := ⟨b, 4, none⟩) (Nat.le_refl _) y4).setCell (p := ⟨b, 5, none⟩) (Nat.le_refl _) y5).setCell (p := ⟨b, 6, none⟩) (Nat.le_refl _) y6).setCell (p := ⟨b, 7, none⟩) (Nat.le_refl _) y7
theorem put8_size {W : World} {b : Nat} {y0 y1 y2 y3 y4 y5 y6 y7 : Value} : ((((((((W.setCell ⟨b, 0, none⟩ y0).setCell ⟨b, 1, none⟩ y1).setCell ⟨b, 2, none⟩ y2).setCell ⟨b, 3, none⟩ y3).setCell ⟨b, 4, none⟩ y4).setCell ⟨b, 5, none⟩ y5).setCell ⟨b, 6, none⟩ y6).setCell ⟨b, 7, none⟩ y7).heap.size = W.heap.size := by simp only [World.size_setCell]
theorem ko_below {W W' : World} (h : Below W.heap.size W W') : KeepsOthers W W' := ⟨h.size, fun k o hk _ => by
  rcases Nat.lt_or_ge k W.heap.size with h1 | h1
  · exact (h.block k h1).trans hk
  · rw [Array.getElem?_eq_none h1] at hk; cases hk⟩
/-- between two rounds: what the state's block holds; the step's block; the rest lies as it lay -/
def SumI (st st' : V8) (hb : Nat) (W4 : World) (pre : List Unit) (W : World) : Prop :=
  W.heap[hb]? = some (.cells (if pre = [] then st else st').cells 181 (0, 0)) ∧ W.heap[hb + 1]? = some (.cells #[.func (.func 93) #[] #[]] 182 (0, 0)) ∧ Below hb W4 W ∧ hb + 4 ≤ W.heap.size
theorem sumI_own {st st' : V8} {hb B : Nat} {W4 : World} (hB : hb + 4 ≤ B) : OwnFrom B (SumI st st' hb W4) := by
  intro s W W' row hs hg hr
  have hk : ∀ k, k < hb + 4 → W'.heap[k]? = W.heap[k]? := fun k hk => hg.block k (Nat.lt_of_lt_of_le hk hs.2.2.2) (fun e => by
    have := (hr k e.symm).1
    omega)
  exact ⟨(hk _ (by omega)).trans hs.1, (hk _ (by omega)).trans hs.2.1, ⟨hg.os.trans hs.2.2.1.os, hg.tape.trans hs.2.2.1.tape, hg.output.trans hs.2.2.1.output, Nat.le_trans hs.2.2.1.size hg.size, fun k h => (hk k (by omega)).trans (hs.2.2.1.block k h)⟩, Nat.le_trans hs.2.2.2 hg.size⟩
theorem four_new' {w : World} {o1 o2 o3 o4 : Obj} : ∀ W, (((w.alloc o1).alloc o2).alloc o3).alloc o4 = W → W.heap[w.heap.size]? = some o1 ∧ W.heap[w.heap.size + 1]? = some o2 ∧ W.heap[w.heap.size + 1 + 1]? = some o3 ∧ W.heap[w.heap.size + 1 + 1 + 1]? = some o4 ∧ Below w.heap.size w W ∧ W.heap.size = w.heap.size + 4 := by
  rintro W rfl
  obtain ⟨h1, h2, h3, hb, hs⟩ := three_new' _ (rfl : ((w.alloc o1).alloc o2).alloc o3 = _)
  have b4 := Below.new (w := ((w.alloc o1).alloc o2).alloc o3) o4
  have e := heap_alloc_new (((w.alloc o1).alloc o2).alloc o3) o4
  rw [hs] at e b4
  exact ⟨(b4.block _ (by omega)).trans h1, (b4.block _ (by omega)).trans h2, (b4.block _ (by omega)).trans h3, e, hb.trans (b4.mono (by omega)), by rw [World.size_alloc, hs]⟩
set_option maxRecDepth 100000 in
set_option maxHeartbeats 4000000 in
theorem sha_sum {Ks : List Int} {st : V8} (v : Value) (bs : List Nat) (h0 : 0 < bs.length) (h1 : bs.length ≤ 55) (B : Nat) (w : World) (hB : B ≤ w.heap.size) (hv : OB w B v bs) (hby : ∀ x ∈ bs, x < 256) (hg : ShaG w Ks st) :
    Calls Tryz.prog 57 #[v] w fun e w' => e = .returned (.agg (b8 (words8 (compressV Ks st (pad bs)))).toArray) ∧ Below w.heap.size w w' := by
  obtain ⟨n, hn⟩ : ∃ n, bs.length = n := ⟨_, rfl⟩
  obtain ⟨g, cap, hvf, hg1, hg2, hg3, hg4, -⟩ := hv.form hn (by omega)
  have HV := Lib.hid hv
  have HN := Lib.hid hn
  have HL := Lib.hid (And.intro h0 h1)
  have HB := Lib.hid hB
  have HG := Lib.hid hg
  have HBY := Lib.hid (pad_byte hby)
  subst hvf
  clear hv hn h0 h1 hB hg hby hg1 hg2 hg3 hg4
  refine (callsIn_wide (n := 3)).1 (callsIn_of_wp_marks Tryz.func57 rfl trivial ?_ rfl)
  simp only [Tryz.ntmps57, List.size_toArray, List.length_cons, List.length_nil, Nat.reduceAdd, Nat.reduceSub, Array.replicate_succ, Array.replicate_zero, List.push_toArray, List.append_toArray, List.nil_append, List.cons_append]
  refine wpIn_wide.2 ?_
  go_wp2_with fail
  obtain ⟨W0, hW0⟩ : ∃ W0, w.alloc (.cells (b8 (List.replicate 32 0)).toArray 124) = W0 := ⟨_, rfl⟩
  have e0 := heap_alloc_new w (.cells (b8 (List.replicate 32 0)).toArray 124)
  have b0 := Below.new (w := w) (.cells (b8 (List.replicate 32 0)).toArray 124)
  have s0 : W0.heap.size = w.heap.size + 1 := by rw [← hW0]; simp
  rw [hW0] at e0 b0
  change Calls _ _ _ (w.alloc (.cells (b8 (List.replicate 32 0)).toArray 124)) _
  rw [hW0]
  clear hW0
  have HR0 := Lib.hid e0
  have HB0 := Lib.hid (And.intro b0 s0)
  clear e0 b0 s0
  refine (sha_clone _ bs HL.out.1 (by have := HL.out; omega) B W0 (by have := HB0.out.2; have := HB.out; omega) (HV.out.below HB0.out.1)).mono ?_
  rintro e W1 ⟨v1, rfl, ho1, hb1⟩
  obtain ⟨g1, c1, hv1, -⟩ := ho1.form HN.out (by have := HL.out; have := HN.out; omega)
  subst hv1
  have HO1 := Lib.hid ho1
  have HB1 := Lib.hid hb1
  have HN1 := Lib.hid (World.news_of_block (heap_alloc_new W1 (.cells (b8 [128]).toArray 5)))
  clear ho1 hb1
  go_wp2_with (at_builtin; refine ap8 rfl _ _ rfl W0.heap.size _ bs (by rfl) (HO1.out.below (Below.new _)) ⟨W1.heap.size, 0, none⟩ 1 1 [128] (by rfl) rfl HN1.out (by have := HL.out; simp; omega) (by have := HB1.out.size; simp; omega) ?_; intro v2 W2 hown2 hb2; have HO2 := Lib.hid hown2; have HB2 := Lib.hid hb2; clear hown2 hb2)
  obtain ⟨g2, c2, hv2, -⟩ := HO2.out.form (n := n + 1) (by simp [HN.out]) (by omega)
  subst hv2
  have HBW := Lib.hid (show Below W0.heap.size W0 W2 from (HB1.out.trans ((Below.new _).mono HB1.out.size)).trans HB2.out)
  clear HO1 HB1 HN1 HB2
  go_loopg [3] (55 - n) (fun k s3 wr => ∃ (m gb ck : Nat), Hid (m + k = 56 ∧ n + 1 ≤ m) ∧ s3 = .slice (some ⟨gb, 0, none⟩) m ck ∧ Hid (OB wr W0.heap.size (.slice (some ⟨gb, 0, none⟩) m ck) (bs ++ 128 :: List.replicate (m - n - 1) 0)) ∧ Hid (Below W0.heap.size W0 wr))
  case atStart => exact ⟨n + 1, g2, c2, Lib.hid (by have := HL.out; have := HN.out; omega), rfl, by have := HO2.out; rw [show n + 1 - n - 1 = 0 by omega]; exact Lib.hid this, HBW⟩
  case round =>
    clear HO2 HBW
    obtain ⟨m, gb, ck, HM, rfl, HO, HBW⟩ := hrel
    cases gk with
    | zero =>
      obtain rfl : m = 56 := by have := HM.out; omega
      clear HM
      have t3 : IntKind.u64.wrap (n : Int) = n := by have := HL.out; have := HN.out; simp [IntKind.wrap_u64]; omega
      have t4 : (8 : Int) * n % 18446744073709551616 = ((8 * n : Nat) : Int) := by have := HL.out; have := HN.out; omega
      have t5 : IntKind.u64.wrap (8 * (n : Int)) = ((8 * n : Nat) : Int) := by rw [IntKind.wrap_u64]; exact t4
      have HT := Lib.hid (And.intro t3 (And.intro t4 t5))
      have HO' := Lib.hid (show OB wr W0.heap.size (.slice (some ⟨gb, 0, none⟩) 56 ck) (bs ++ 128 :: List.replicate (55 - n) 0) by have := HO.out; rwa [show 56 - n - 1 = 55 - n by omega] at this)
      have HPL := Lib.hid (show (bs ++ 128 :: List.replicate (55 - n) 0).length ≤ 1000 by have := HL.out; have := HN.out; simp; omega)
      clear HO
      go_wp2_with fail
      refine (sha_store (8 * n) 8 (by decide) (by decide) _ (bs ++ 128 :: List.replicate (55 - n) 0) HPL.out W0.heap.size wr HBW.out.size HO'.out).mono ?_
      rintro e W4 ⟨v4, rfl, ho4, hb4⟩
      have HO4 := Lib.hid (show OB W4 W0.heap.size v4 (pad bs) by rw [pad, HN.out]; simpa using ho4)
      have HB4 := Lib.hid (HBW.out.trans hb4)
      obtain ⟨g4, c4, hv4, hq1, hq2, hq3, hq4, hq5⟩ := HO4.out.form (n := 64) (pad_len HL.out.2) (by decide)
      subst hv4
      have HC4 := Lib.hid (And.intro hq3 (And.intro hq4 (And.intro hq1 hq2)))
      have HX4 := Lib.hid hq5
      have HG4 := Lib.hid ((HG.out.below HB0.out.1 HG.out.size).below HB4.out (Nat.le_trans HG.out.size HB0.out.1.size))
      clear ho4 hb4 hq1 hq2 hq3 hq4 hq5 HO' HBW t3 t4 t5
      obtain ⟨y0, y1, y2, y3, y4, y5, y6, y7, yf⟩ := v8_cells HG4.out.st
      go_wp2_with (go_at_call 94; refine (chunk_any g4 c4 _).mono ?_; rintro e w' ⟨rfl, rfl⟩)
      obtain ⟨hb, hhb⟩ : ∃ hb, W4.heap.size = hb := ⟨_, rfl⟩
      obtain ⟨W5, hW5⟩ : ∃ W5, (((W4.alloc (.cells st.cells 181)).alloc (.cells #[.func (.func 93) #[] #[]] 182)).alloc (.cells #[.slice (some ⟨g4, 0, none⟩) 64 c4] 52)).alloc (.cells #[.int .i64 64] 3) = W5 := ⟨_, rfl⟩
      obtain ⟨k1, k2, k3, k4, kb, ks⟩ := four_new' W5 hW5
      change Code.wp _ _ _ _ ((((W4.alloc (.cells st.cells 181)).alloc (.cells #[.func (.func 93) #[] #[]] 182)).alloc (.cells #[.slice (some ⟨g4, 0, none⟩) 64 c4] 52)).alloc (.cells #[.int .i64 64] 3))
      rw [hW5]
      rw [hhb] at k1 k2 k3 k4 kb ks ⊢
      clear hW5
      refine (wpIn_wide (n := 3)).1 ?_
      refine wpIn_rangeFunc_ownF (F := Fence.wide) rfl (by decide) (gf := 139) (lb := #[.pointer (some ⟨hb + 1 + 1, 0, none⟩), .pointer (some ⟨hb + 1 + 1 + 1, 0, none⟩)]) rfl trivial (enters_of Tryz.func139 (by kernel_rfl) rfl)
        (chunk_stops 2 (by decide) (hb + 1 + 1) (hb + 1 + 1 + 1) g4 c4 W5 HC4.out.1 k3 k4 (by omega) (by omega)) Kc.trans (kc_b (by omega) (by omega)) (Below.refl _ _) (fun _ => rfl)
        (SumI st (compressV Ks st (pad bs)) hb W4) (fun _ _ _ => False) (sumI_own (by omega)) (fun _ _ _ _ _ hs _ _ => hs) ⟨k1, k2, kb, by omega⟩ ?a1 ?assign ?body ?done ?stop
      case assign =>
        intro l x W K hK
        gi_wp2
        exact hK
      case body =>
        rintro l pre x W ⟨i1, i2, i3, i4⟩ hlt
        obtain rfl : pre = [] := List.eq_nil_of_length_eq_zero (by omega)
        obtain ⟨z0, z1, z2, z3, z4, z5, z6, z7, zf⟩ := v8_cells (v := st) i1
        obtain ⟨f0, ff⟩ := one_cell' i2
        have hlt2 : hb < W.heap.size := by omega
        have HG5 := Lib.hid (HG4.out.below i3 (by have := HG4.out.size; omega))
        have HI := Lib.hid (And.intro i1 (And.intro i2 (And.intro i3 i4)))
        have HCC := Lib.hid ((compress_any st (pad bs) g4 0 64 W (by have := HC4.out.2.2.2; omega) (by decide) Ks HG5.out.len HG5.out.ks (fun i hi => by
          have e := HX4.out i (.int .u8 (nth (pad bs) i : Nat)) (by simp [b8, nth, pad_len HL.out.2, hi])
          have hadd : (⟨g4, 0, none⟩ : Addr).add i = ⟨g4, i, none⟩ := by unfold Addr.add; split <;> simp_all
          rw [hadd] at e
          refine ⟨?_, HBY.out i⟩
          rw [Nat.zero_add]
          exact (i3.cell (p := ⟨g4, i, none⟩) (by have := HC4.out.2.2.2; simp only; omega)).trans e)))
        obtain ⟨V, hV⟩ : ∃ V, compressV Ks st (pad bs) = V := ⟨_, rfl⟩
        rw [hV] at HCC
        have HCD := Lib.hid (show Calls Tryz.prog 93 #[.agg #[.int .u32 st.a, .int .u32 st.b, .int .u32 st.c, .int .u32 st.d, .int .u32 st.e, .int .u32 st.f, .int .u32 st.g, .int .u32 st.h], .slice (some ⟨g4, 0, none⟩) 64 64] W (fun e w' => e = .returned (.agg #[.int .u32 V.a, .int .u32 V.b, .int .u32 V.c, .int .u32 V.d, .int .u32 V.e, .int .u32 V.f, .int .u32 V.g, .int .u32 V.h]) ∧ Below W.heap.size W w') from HCC.out)
        have HVV := Lib.hid hV
        clear i1 i2 i3 i4 hlt HCC hV
        gi_wp2_with (refine ⟨trivial, ?_⟩; gi_at_call 93; refine (CallsIn.inRound l (callsIn_wide.2 HCD.out)).mono ?_; rintro e w' ⟨rfl, hbw⟩; obtain ⟨x0, x1, x2, x3, x4, x5, x6, x7, xf⟩ := v8_cells (v := st) ((hbw.block hb hlt2).trans HI.out.1); have HBW := Lib.hid hbw; clear hbw)
        have hsz := HBW.out.size
        have h4 := HI.out.2.2.2
        refine ⟨(ko_below HBW.out).trans ((((((((KeepsOthers.setCell _ _ _).trans (KeepsOthers.setCell _ _ _)).trans (KeepsOthers.setCell _ _ _)).trans (KeepsOthers.setCell _ _ _)).trans (KeepsOthers.setCell _ _ _)).trans (KeepsOthers.setCell _ _ _)).trans (KeepsOthers.setCell _ _ _)).trans (KeepsOthers.setCell _ _ _)), ⟨?_, ?_⟩, ?_, ?_, ?_, ?_⟩
        · exact (put8_other (by omega)).trans (HBW.out.block _ (by omega))
        · exact (put8_other (by omega)).trans (HBW.out.block _ (by omega))
        · rw [if_neg (by simp), HVV.out]
          exact heap_put8 (x0 := .int .u32 st.a) (x1 := .int .u32 st.b) (x2 := .int .u32 st.c) (x3 := .int .u32 st.d) (x4 := .int .u32 st.e) (x5 := .int .u32 st.f) (x6 := .int .u32 st.g) (x7 := .int .u32 st.h) ((HBW.out.block hb hlt2).trans HI.out.1) _ _ _ _ _ _ _ _
        · exact (put8_other (by omega)).trans ((HBW.out.block _ (by omega)).trans HI.out.2.1)
        · exact (HI.out.2.2.1.trans (HBW.out.mono (by omega))).trans put8_below
        · rw [put8_size]; omega
      case done =>
        rintro D ys W hD rfl ⟨i1, i2, i3, i4⟩ hK
        rw [if_neg (by simp)] at i1
        obtain ⟨na, nb, nc, nd, ne, nf, ng, nh, hV, hW8, u0, u1, u2, u3, u4, u5, u6, u7⟩ := words_of Ks st (pad bs)
        rw [hV] at i1
        obtain ⟨z0, z1, z2, z3, z4, z5, z6, z7, zf⟩ := v8_cells i1
        have hr0 := (i3.block w.heap.size (by have := HB0.out.2; have := HB4.out.size; omega)).trans ((HB4.out.block w.heap.size (by have := HB0.out.2; omega)).trans HR0.out)
        have HI := Lib.hid (And.intro hr0 (And.intro i3 (And.intro hK (And.intro hW8 (And.intro i4 hD)))))
        have HO0 := Lib.hid (OB.nil W W.heap.size)
        clear i1 i2 i3 i4 hK hr0 hW8 hD hV
        have ix0 : ∀ w, (Instr.index 181 (.agg #[.int .u32 (na : Int), .int .u32 (nb : Int), .int .u32 (nc : Int), .int .u32 (nd : Int), .int .u32 (ne : Int), .int .u32 (nf : Int), .int .u32 (ng : Int), .int .u32 (nh : Int)]) (.int .i64 0)).run Tryz.prog w = .ok (.int .u32 (na : Int)) w := fun _ => by kernel_rfl
        have ix1 : ∀ w, (Instr.index 181 (.agg #[.int .u32 (na : Int), .int .u32 (nb : Int), .int .u32 (nc : Int), .int .u32 (nd : Int), .int .u32 (ne : Int), .int .u32 (nf : Int), .int .u32 (ng : Int), .int .u32 (nh : Int)]) (.int .i64 1)).run Tryz.prog w = .ok (.int .u32 (nb : Int)) w := fun _ => by kernel_rfl
        have ix2 : ∀ w, (Instr.index 181 (.agg #[.int .u32 (na : Int), .int .u32 (nb : Int), .int .u32 (nc : Int), .int .u32 (nd : Int), .int .u32 (ne : Int), .int .u32 (nf : Int), .int .u32 (ng : Int), .int .u32 (nh : Int)]) (.int .i64 2)).run Tryz.prog w = .ok (.int .u32 (nc : Int)) w := fun _ => by kernel_rfl
        have ix3 : ∀ w, (Instr.index 181 (.agg #[.int .u32 (na : Int), .int .u32 (nb : Int), .int .u32 (nc : Int), .int .u32 (nd : Int), .int .u32 (ne : Int), .int .u32 (nf : Int), .int .u32 (ng : Int), .int .u32 (nh : Int)]) (.int .i64 3)).run Tryz.prog w = .ok (.int .u32 (nd : Int)) w := fun _ => by kernel_rfl
        have ix4 : ∀ w, (Instr.index 181 (.agg #[.int .u32 (na : Int), .int .u32 (nb : Int), .int .u32 (nc : Int), .int .u32 (nd : Int), .int .u32 (ne : Int), .int .u32 (nf : Int), .int .u32 (ng : Int), .int .u32 (nh : Int)]) (.int .i64 4)).run Tryz.prog w = .ok (.int .u32 (ne : Int)) w := fun _ => by kernel_rfl
        have ix5 : ∀ w, (Instr.index 181 (.agg #[.int .u32 (na : Int), .int .u32 (nb : Int), .int .u32 (nc : Int), .int .u32 (nd : Int), .int .u32 (ne : Int), .int .u32 (nf : Int), .int .u32 (ng : Int), .int .u32 (nh : Int)]) (.int .i64 5)).run Tryz.prog w = .ok (.int .u32 (nf : Int)) w := fun _ => by kernel_rfl
        have ix6 : ∀ w, (Instr.index 181 (.agg #[.int .u32 (na : Int), .int .u32 (nb : Int), .int .u32 (nc : Int), .int .u32 (nd : Int), .int .u32 (ne : Int), .int .u32 (nf : Int), .int .u32 (ng : Int), .int .u32 (nh : Int)]) (.int .i64 6)).run Tryz.prog w = .ok (.int .u32 (ng : Int)) w := fun _ => by kernel_rfl
        have ix7 : ∀ w, (Instr.index 181 (.agg #[.int .u32 (na : Int), .int .u32 (nb : Int), .int .u32 (nc : Int), .int .u32 (nd : Int), .int .u32 (ne : Int), .int .u32 (nf : Int), .int .u32 (ng : Int), .int .u32 (nh : Int)]) (.int .i64 7)).run Tryz.prog w = .ok (.int .u32 (nh : Int)) w := fun _ => by kernel_rfl
        go_wp2_with fail
        refine wp_loop_rounds 9 ?_
        rw [rounds_succ]
        go_wp2_with fail
        refine (sha_store na 4 (by decide) (by decide) _ ([]) (by simp) W.heap.size W (Nat.le_refl _) HO0.out).mono ?_
        rintro e X1 ⟨x1, rfl, ho, hbx⟩
        obtain ⟨gx1, cx1, hvx, -⟩ := ho.form (n := 4) (by simp [beB_len]) (by decide)
        subst hvx
        have HO1 := Lib.hid ho
        have HX1 := Lib.hid hbx
        clear ho hbx
        go_wp2_with fail
        rw [rounds_succ]
        go_wp2_with fail
        refine (sha_store nb 4 (by decide) (by decide) _ ([] ++ beB na 4) (by simp [beB_len]) W.heap.size X1 HX1.out.size HO1.out).mono ?_
        rintro e X2 ⟨x2, rfl, ho, hbx⟩
        obtain ⟨gx2, cx2, hvx, -⟩ := ho.form (n := 8) (by simp [beB_len]) (by decide)
        subst hvx
        have HO2 := Lib.hid ho
        have HX2 := Lib.hid (HX1.out.trans hbx)
        clear ho hbx
        go_wp2_with fail
        rw [rounds_succ]
        go_wp2_with fail
        refine (sha_store nc 4 (by decide) (by decide) _ ([] ++ beB na 4 ++ beB nb 4) (by simp [beB_len]) W.heap.size X2 HX2.out.size HO2.out).mono ?_
        rintro e X3 ⟨x3, rfl, ho, hbx⟩
        obtain ⟨gx3, cx3, hvx, -⟩ := ho.form (n := 12) (by simp [beB_len]) (by decide)
        subst hvx
        have HO3 := Lib.hid ho
        have HX3 := Lib.hid (HX2.out.trans hbx)
        clear ho hbx
        go_wp2_with fail
        rw [rounds_succ]
        go_wp2_with fail
        refine (sha_store nd 4 (by decide) (by decide) _ ([] ++ beB na 4 ++ beB nb 4 ++ beB nc 4) (by simp [beB_len]) W.heap.size X3 HX3.out.size HO3.out).mono ?_
        rintro e X4 ⟨x4, rfl, ho, hbx⟩
        obtain ⟨gx4, cx4, hvx, -⟩ := ho.form (n := 16) (by simp [beB_len]) (by decide)
        subst hvx
        have HO4 := Lib.hid ho
        have HX4 := Lib.hid (HX3.out.trans hbx)
        clear ho hbx
        go_wp2_with fail
        rw [rounds_succ]
        go_wp2_with fail
        refine (sha_store ne 4 (by decide) (by decide) _ ([] ++ beB na 4 ++ beB nb 4 ++ beB nc 4 ++ beB nd 4) (by simp [beB_len]) W.heap.size X4 HX4.out.size HO4.out).mono ?_
        rintro e X5 ⟨x5, rfl, ho, hbx⟩
        obtain ⟨gx5, cx5, hvx, -⟩ := ho.form (n := 20) (by simp [beB_len]) (by decide)
        subst hvx
        have HO5 := Lib.hid ho
        have HX5 := Lib.hid (HX4.out.trans hbx)
        clear ho hbx
        go_wp2_with fail
        rw [rounds_succ]
        go_wp2_with fail
        refine (sha_store nf 4 (by decide) (by decide) _ ([] ++ beB na 4 ++ beB nb 4 ++ beB nc 4 ++ beB nd 4 ++ beB ne 4) (by simp [beB_len]) W.heap.size X5 HX5.out.size HO5.out).mono ?_
        rintro e X6 ⟨x6, rfl, ho, hbx⟩
        obtain ⟨gx6, cx6, hvx, -⟩ := ho.form (n := 24) (by simp [beB_len]) (by decide)
        subst hvx
        have HO6 := Lib.hid ho
        have HX6 := Lib.hid (HX5.out.trans hbx)
        clear ho hbx
        go_wp2_with fail
        rw [rounds_succ]
        go_wp2_with fail
        refine (sha_store ng 4 (by decide) (by decide) _ ([] ++ beB na 4 ++ beB nb 4 ++ beB nc 4 ++ beB nd 4 ++ beB ne 4 ++ beB nf 4) (by simp [beB_len]) W.heap.size X6 HX6.out.size HO6.out).mono ?_
        rintro e X7 ⟨x7, rfl, ho, hbx⟩
        obtain ⟨gx7, cx7, hvx, -⟩ := ho.form (n := 28) (by simp [beB_len]) (by decide)
        subst hvx
        have HO7 := Lib.hid ho
        have HX7 := Lib.hid (HX6.out.trans hbx)
        clear ho hbx
        go_wp2_with fail
        rw [rounds_succ]
        go_wp2_with fail
        refine (sha_store nh 4 (by decide) (by decide) _ ([] ++ beB na 4 ++ beB nb 4 ++ beB nc 4 ++ beB nd 4 ++ beB ne 4 ++ beB nf 4 ++ beB ng 4) (by simp [beB_len]) W.heap.size X7 HX7.out.size HO7.out).mono ?_
        rintro e X8 ⟨x8, rfl, ho, hbx⟩
        obtain ⟨gx8, cx8, hvx, -⟩ := ho.form (n := 32) (by simp [beB_len]) (by decide)
        subst hvx
        have HO8 := Lib.hid ho
        have HX8 := Lib.hid (HX7.out.trans hbx)
        clear ho hbx
        go_wp2_with fail
        rw [rounds_succ]
        go_wp2_with fail
        refine upon_value (v := .pointer (some ⟨gx8, 0, none⟩)) (w' := X8) (by kernel_rfl) ?_
        rename_i K0 hK0
        refine hK0 _ _ ?_
        obtain ⟨gq, cq, hvq, -, -, -, -, hcq⟩ := HO8.out.form (n := 32) (by simp [beB_len]) (by decide)
        simp only [Value.slice.injEq, Option.some.injEq, Addr.mk.injEq, and_true, true_and] at hvq
        obtain ⟨rfl, rfl⟩ := hvq
        have hrow : X8.rangeAt gx8 0 (b8 (words8 (compressV Ks st (pad bs)))) := by
          intro j u hu
          rw [HI.out.2.2.2.1] at hu
          have e := hcq j u hu
          have hadd : (⟨gx8, 0, none⟩ : Addr).add j = ⟨gx8, j, none⟩ := by unfold Addr.add; split <;> simp_all
          rw [hadd] at e
          rw [Nat.zero_add]
          exact e
        have hlen : (b8 (words8 (compressV Ks st (pad bs)))).length = 32 := by rw [HI.out.2.2.2.1, b8_len]; simp [beB_len]
        have hr8 := (HX8.out.block w.heap.size (by have := HB0.out.2; have := HB4.out.size; have := HI.out.2.1.size; omega)).trans HI.out.1
        refine wpList_load_mid rfl 124 (.tmp 45) rfl gx8 0 rfl (b8 (words8 (compressV Ks st (pad bs)))) _ hrow Tryz.underlying124 rfl (by rw [hlen]; kernel_rfl) ?_
        refine wpList_store_mid rfl 124 (.tmp 2) (.tmp 46) rfl w.heap.size 0 _ rfl rfl (there_block hr8 (by simp [hlen, b8_len])) (by rw [List.size_toArray, hlen]; kernel_rfl) (all_oneCell_toArray (b8_one _)) ?_
        have hfin := put_same (cs := (b8 (words8 (compressV Ks st (pad bs)))).toArray) hr8 (by simp [hlen, b8_len])
        have hDlt : D < W.heap.size := by
          rcases Nat.lt_or_ge D W.heap.size with h1 | h1
          · exact h1
          · have e := HI.out.2.2.1
            rw [Array.getElem?_eq_none h1] at e; cases e
        have hDw : w.heap.size < D := by have := HI.out.2.2.2.2.2; have := HB0.out.2; have := HB4.out.size; omega
        have hd9 := (put_other (w := X8) (b := w.heap.size) (cs := (b8 (words8 (compressV Ks st (pad bs)))).toArray) (k := D) (by omega)).trans ((HX8.out.block D hDlt).trans HI.out.2.2.1)
        have hb9 : Below w.heap.size w (putRow X8 w.heap.size (b8 (words8 (compressV Ks st (pad bs)))).toArray) :=
          put_below (((HB0.out.1.trans (HB4.out.mono (by have := HB0.out.2; omega))).trans (HI.out.2.1.mono (by have := HB0.out.2; have := HB4.out.size; omega))).trans (HX8.out.mono (by have := HB0.out.2; have := HB4.out.size; have := HI.out.2.1.size; omega))) (Nat.le_refl _)
        change wpList _ _ _ _ _ (putRow X8 w.heap.size (b8 (words8 (compressV Ks st (pad bs)))).toArray)
        revert hfin hd9 hb9
        generalize putRow X8 w.heap.size (b8 (words8 (compressV Ks st (pad bs)))).toArray = W9
        intro hfin hd9 hb9
        have HF := Lib.hid (And.intro hfin (And.intro hd9 (And.intro hb9 (And.intro hlen hDw))))
        clear hfin hd9 hb9 hr8 hlen hrow hDlt hDw
        go_wp2_with fail
        obtain ⟨q1, q2, q3, q4, q5⟩ := HF.out
        refine ⟨by simp, .inl ⟨_, _, rfl, run_takeDeferred q2, ?_⟩⟩
        exact ⟨_, results_row Tryz.underlying124 rfl (n := 32) (by kernel_rfl) Tryz.results57 (r := w.heap.size) rfl ((World.putObj_heap_other (by omega)).trans q1) (by simpa using q4), rfl, q3.trans (belowK_b (w := w) (Nat.le_refl _) W9 D _ _ (by omega) q2 rfl rfl)⟩
      case stop =>
        rintro D c pre W _ _ h _
        exact h.elim
    | succ k =>
      have t1 : ((m : Int) % 64 != 56) = true := by rw [bne_iff_ne]; have := HM.out; omega
      have t2 : ¬ (m : Int) % 64 = 56 := by have := HM.out; omega
      have HN1 := Lib.hid (World.news_of_block (heap_alloc_new wr (.cells (b8 [0]).toArray 5)))
      have HLL := Lib.hid (show (bs ++ 128 :: List.replicate (m - n - 1) 0).length = m by have := HM.out; have := HN.out; simp; omega)
      go_wp2_with (at_builtin; refine ap8 rfl _ _ rfl W0.heap.size _ _ (by rfl) (HO.out.below (Below.new _)) ⟨wr.heap.size, 0, none⟩ 1 1 [0] (by rfl) rfl HN1.out (by rw [HLL.out]; have := HM.out; omega) (by have := HBW.out.size; simp; omega) ?_; intro v3 W3 hown2 hb2; have HO3 := Lib.hid hown2; have HB3 := Lib.hid hb2; clear hown2 hb2)
      obtain ⟨g3, c3, hv3, -⟩ := HO3.out.form (n := m + 1) (by rw [List.length_append, HLL.out]; rfl) (by omega)
      subst hv3
      go_roundg k
      case measure => omega
      case rel => exact ⟨m + 1, g3, c3, Lib.hid (by have := HM.out; omega), rfl, Lib.hid (by have := HO3.out; rw [List.append_assoc, List.cons_append, ← List.replicate_succ', show m - n - 1 + 1 = m + 1 - n - 1 by have := HM.out; omega] at this; exact this), Lib.hid ((HBW.out.trans ((Below.new _).mono HBW.out.size)).trans HB3.out)⟩
end Go.Proofs.YtdeccekeknlnoaaGreatDoor

namespace Go.Proofs.YtdeccekeknlnoaaGreatDoor
open Go.RowKit Go.Shelf
/-- the first sixteen bytes -/
def d16 (l : List Nat) : List Nat := l.take 16
set_option maxRecDepth 100000 in
set_option maxHeartbeats 1000000 in
theorem sha_short (hs : List Nat) (hl : hs.length = 32) (w : World) :
    Calls Tryz.prog 56 #[.agg (b8 hs).toArray] w fun e w' => e = .returned (.agg (b8 (d16 hs)).toArray) ∧ Below w.heap.size w w' := by
  have hz : (b8 hs).toArray.size = 32 := by simp [b8_len, hl]
  obtain ⟨cs, hcs⟩ : ∃ cs, (b8 hs).toArray = cs := ⟨_, rfl⟩
  have e1 := heap_alloc_new w (.cells cs 124)
  have b1 := Below.new (w := w) (.cells cs 124)
  have e2 := heap_alloc_new (w.alloc (.cells cs 124)) (.cells (b8 (List.replicate 16 0)).toArray 39)
  have b2 := Below.new (w := w.alloc (.cells cs 124)) (.cells (b8 (List.replicate 16 0)).toArray 39)
  rw [World.size_alloc] at e2 b2
  rw [hcs]
  obtain ⟨W, hW⟩ : ∃ W, (w.alloc (.cells cs 124)).alloc (.cells (b8 (List.replicate 16 0)).toArray 39) = W := ⟨_, rfl⟩
  rw [hW] at e2 b2
  have HM := Lib.hid (show W.heap[w.heap.size]? = some (.cells (b8 hs).toArray 124 (0, 0)) ∧ W.heap[w.heap.size + 1]? = some (.cells (b8 (List.replicate 16 0)).toArray 39 (0, 0)) ∧ Below w.heap.size w W from ⟨by rw [hcs]; exact (b2.block _ (by omega)).trans e1, e2, b1.trans (b2.mono (by omega))⟩)
  have HL := Lib.hid hl
  clear hz hcs e1 b1 e2 b2 hl
  go_enter Tryz.func56, Tryz.ntmps56
  go_upto_region 1 with fail
  change Code.wp _ _ _ _ ((w.alloc (.cells cs 124)).alloc (.cells (b8 (List.replicate 16 0)).toArray 39))
  rw [hW]
  clear hW
  go_wp2_with fail
  refine upon_value (v := .pointer (some ⟨w.heap.size, 0, none⟩)) (w' := W) (by kernel_rfl) ?_
  rename_i K0 hK0
  refine hK0 _ _ ?_
  have hrow : W.rangeAt w.heap.size 0 (b8 (d16 hs)) := by
    have h1 := range_block HM.out.1
    intro j u hu
    refine h1 j u ?_
    simp only [d16, b8, List.getElem?_map, List.getElem?_take] at hu ⊢
    split at hu
    · simpa using hu
    · cases hu
  have hlen : (b8 (d16 hs)).length = 16 := by rw [b8_len, d16, List.length_take, HL.out]; rfl
  refine wpList_load_mid rfl 39 (.tmp 4) rfl w.heap.size 0 rfl (b8 (d16 hs)) _ hrow Tryz.underlying39 rfl (by rw [hlen]; kernel_rfl) ?_
  refine wpList_store_mid rfl 39 (.tmp 2) (.tmp 5) rfl (w.heap.size + 1) 0 _ rfl rfl (there_block HM.out.2.1 (by simp [hlen, b8_len])) (by rw [List.size_toArray, hlen]; kernel_rfl) (all_oneCell_toArray (b8_one _)) ?_
  have hfin := put_same (cs := (b8 (d16 hs)).toArray) HM.out.2.1 (by simp [hlen, b8_len])
  have hb9 : Below w.heap.size w (putRow W (w.heap.size + 1) (b8 (d16 hs)).toArray) := put_below HM.out.2.2 (by omega)
  change wpList _ _ _ _ _ (putRow W (w.heap.size + 1) (b8 (d16 hs)).toArray)
  revert hfin hb9
  generalize putRow W (w.heap.size + 1) (b8 (d16 hs)).toArray = W9
  intro hfin hb9
  have HF := Lib.hid (And.intro hfin (And.intro hb9 hlen))
  clear hfin hb9 hrow hlen
  go_wp2_with fail
  exact bodyPost_ret (v := .agg (b8 (d16 hs)).toArray) (results_row Tryz.underlying39 rfl (n := 16) (by kernel_rfl) Tryz.results56 (r := w.heap.size + 1) rfl HF.out.1 (by simpa using HF.out.2.2)) rfl ⟨rfl, HF.out.2.1⟩
/-- the digest of a stage's text -/
def stageD (Ks : List Int) (st : V8) (s : ByteArray) : List Nat := d16 (words8 (compressV Ks st (pad (6 :: 2 * s.size :: bts s))))
theorem words8_len (v : V8) : (words8 v).length = 32 := by simp [words8, V8.list, beB_len]
theorem stageD_len (Ks : List Int) (st : V8) (s : ByteArray) : (stageD Ks st s).length = 16 := by simp [stageD, d16, words8_len]
set_option maxRecDepth 100000 in
set_option maxHeartbeats 2000000 in
theorem sha_digest {Ks : List Int} {st : V8} (s : ByteArray) (hs : s.size ≤ 40) (pb pc tb tc : Nat) (w : World) (hg : ShaG w Ks st)
    (hp : w.cell? ⟨pb, 0, none⟩ = some (.slice (some ⟨tb, 0, none⟩) s.size tc)) (ht : Lib.Bytes w tb 0 s) (hpb : pb < w.heap.size) (htb : tb < w.heap.size) :
    Calls Tryz.prog 30 #[.int .i64 6, .slice (some ⟨pb, 0, none⟩) 1 pc] w fun e w' => e = .returned (.agg (b8 (stageD Ks st s)).toArray) ∧ Below w.heap.size w w' := by
  obtain ⟨W0, hW0⟩ : ∃ W0, w.alloc (.cells (b8 (List.replicate 16 0)).toArray 39) = W0 := ⟨_, rfl⟩
  have e0 := heap_alloc_new w (.cells (b8 (List.replicate 16 0)).toArray 39)
  have b0 := Below.new (w := w) (.cells (b8 (List.replicate 16 0)).toArray 39)
  have s0 : W0.heap.size = w.heap.size + 1 := by rw [← hW0]; simp
  rw [hW0] at e0 b0
  obtain ⟨W1, hW1⟩ : ∃ W1, W0.alloc (.cells (b8 [6]).toArray 5) = W1 := ⟨_, rfl⟩
  have ho : OB (W0.alloc (.cells (b8 [6]).toArray 5)) W0.heap.size (.slice (some ⟨W0.heap.size, 0, none⟩) 1 1) [6] := World.ownsRow_lit W0 (b8 [6]).toArray 1 (Nat.le_refl _) (by unfold maxLen; decide) rfl
  have b1 := Below.new (w := W0) (.cells (b8 [6]).toArray 5)
  rw [hW1] at ho b1
  rw [s0] at ho
  have HB1 := Lib.hid (show Below w.heap.size w W1 from b0.trans (b1.mono (by omega)))
  have HM := Lib.hid (And.intro e0 (And.intro b1 s0))
  have HO := Lib.hid ho
  have HP := Lib.hid (And.intro ((b0.cell (p := ⟨pb, 0, none⟩) hpb).trans hp) (And.intro hpb htb))
  have HG := Lib.hid hg
  have HT := Lib.hid ht
  have HS := Lib.hid hs
  clear e0 b0 ho b1 s0 hp hpb htb hg ht hs
  go_enter Tryz.func30, Tryz.ntmps30
  go_wp2_with fail
  change Calls _ _ _ ((w.alloc (.cells (b8 (List.replicate 16 0)).toArray 39)).alloc (.cells (b8 [6]).toArray 5)) _
  rw [hW0, hW1]
  clear hW0 hW1
  refine (sha_join 6 _ s (by have := HS.out; omega) pb pc tb tc (w.heap.size + 1) W1 (by have := HM.out.2.1.size; have := HM.out.2.2; omega) HO.out ((HM.out.2.1.cell (p := ⟨pb, 0, none⟩) (by have := HP.out.2.1; have := HM.out.2.2; simp only; omega)).trans HP.out.1) (fun i hi => (HB1.out.cell (p := ⟨tb, _, none⟩) HP.out.2.2).trans (HT.out i hi))).mono ?_
  rintro e W2 ⟨v2, rfl, ho2, hb2⟩
  obtain ⟨g2, c2, hv2, -⟩ := ho2.form (n := s.size + 2) (by simp [bts_len]) (by omega)
  subst hv2
  have HO2 := Lib.hid ho2
  have HB2 := Lib.hid hb2
  clear ho2 hb2
  go_wp2_with fail
  refine (sha_sum _ (6 :: 2 * s.size :: bts s) (by simp) (by have := HS.out; simp [bts_len]; omega) (w.heap.size + 1) W2 (by have := HM.out.2.1.size; have := HM.out.2.2; have := HB2.out.size; omega) HO2.out (fun x hx => ?_) ((HG.out.below HB1.out HG.out.size).below HB2.out (by have := HG.out.size; omega))).mono ?_
  · simp only [List.mem_cons, bts, List.mem_map] at hx
    rcases hx with rfl | rfl | ⟨b, -, rfl⟩
    · decide
    · have := HS.out; omega
    · exact b.toNat_lt
  rintro e W3 ⟨rfl, hb3⟩
  have HB3 := Lib.hid hb3
  clear hb3
  go_wp2_with fail
  refine (sha_short _ (words8_len _) W3).mono ?_
  rintro e W4 ⟨rfl, hb4⟩
  have HB4 := Lib.hid hb4
  clear hb4
  have hr0 := (HB4.out.block w.heap.size (by have := HB3.out.size; have := HB2.out.size; have := HM.out.2.1.size; have := HM.out.2.2; omega)).trans ((HB3.out.block w.heap.size (by have := HB2.out.size; have := HM.out.2.1.size; have := HM.out.2.2; omega)).trans ((HB2.out.block w.heap.size (by omega)).trans ((HM.out.2.1.block w.heap.size (by have := HM.out.2.2; omega)).trans HM.out.1)))
  have hlen : (b8 (stageD Ks st s)).length = 16 := by rw [b8_len, stageD_len]
  have hball : Below w.heap.size w W4 := ((HB1.out.trans (HB2.out.mono (by omega))).trans (HB3.out.mono (by have := HB1.out.size; have := HB2.out.size; omega))).trans (HB4.out.mono (by have := HB1.out.size; have := HB2.out.size; have := HB3.out.size; omega))
  simp only []
  rename_i K0 hK0
  refine hK0 _ _ ?_
  refine wpList_store_mid rfl 39 (.tmp 4) (.tmp 11) rfl w.heap.size 0 (b8 (stageD Ks st s)).toArray rfl rfl (there_block hr0 (by simp [hlen, b8_len])) (by rw [List.size_toArray, hlen]; kernel_rfl) (all_oneCell_toArray (b8_one _)) ?_
  have hfin := put_same (cs := (b8 (stageD Ks st s)).toArray) hr0 (by simp [hlen, b8_len])
  have hb9 : Below w.heap.size w (putRow W4 w.heap.size (b8 (stageD Ks st s)).toArray) := put_below hball (Nat.le_refl _)
  change wpList _ _ _ _ _ (putRow W4 w.heap.size (b8 (stageD Ks st s)).toArray)
  revert hfin hb9
  generalize putRow W4 w.heap.size (b8 (stageD Ks st s)).toArray = W9
  intro hfin hb9
  have HF := Lib.hid (And.intro hfin (And.intro hb9 hlen))
  clear hfin hb9 hr0 hlen hball
  go_wp2_with fail
  exact bodyPost_ret (v := .agg (b8 (stageD Ks st s)).toArray) (results_row Tryz.underlying39 rfl (n := 16) (by kernel_rfl) Tryz.results30 (r := w.heap.size) rfl HF.out.1 (by simpa using HF.out.2.2)) rfl ⟨rfl, HF.out.2.1⟩
set_option maxRecDepth 100000 in
set_option maxHeartbeats 2000000 in
theorem stage_digest {Ks : List Int} {st : V8} (s : ByteArray) (hs : s.size ≤ 40) (w : World) (hg : ShaG w Ks st) :
    Calls Tryz.prog 13 #[.string s] w fun e w' => e = .returned (.agg (b8 (stageD Ks st s)).toArray) ∧ Below w.heap.size w w' := by
  obtain ⟨W0, hW0⟩ : ∃ W0, w.alloc (.cells (b8 (List.replicate 16 0)).toArray 39) = W0 := ⟨_, rfl⟩
  have e0 := heap_alloc_new w (.cells (b8 (List.replicate 16 0)).toArray 39)
  have b0 := Below.new (w := w) (.cells (b8 (List.replicate 16 0)).toArray 39)
  have s0 : W0.heap.size = w.heap.size + 1 := by rw [← hW0]; simp
  rw [hW0] at e0 b0
  have hcv := Lib.run_convert_string_bytes (P := Tryz.prog) W0 9 52 5 s Tryz.underlying9 Tryz.underlying52 Tryz.underlying5
  have hby : Lib.Bytes (Lib.bytesWorld W0 5 s) W0.heap.size 0 s := fun i hi => by
    have := Lib.bytesWorld_cell W0 5 s i hi
    rw [Nat.zero_add, this]
    simp [List.getD, hi]
    rfl
  have hbb : Below W0.heap.size W0 (Lib.bytesWorld W0 5 s) := ⟨rfl, rfl, rfl, by rw [Lib.bytesWorld_size]; omega, fun k hk => Lib.bytesWorld_at_old W0 5 s k hk⟩
  have hbs := Lib.bytesWorld_size W0 5 s
  revert hcv hby hbb hbs
  generalize Lib.bytesWorld W0 5 s = W1
  generalize grownCap W0 s.size 0 5 = tc
  intro hcv hby hbb hbs
  rw [s0] at hcv hby hbb hbs
  have HM := Lib.hid (And.intro e0 (And.intro b0 s0))
  have HB := Lib.hid (And.intro hby (And.intro hbb hbs))
  have HG := Lib.hid hg
  have HS := Lib.hid hs
  clear e0 b0 s0 hby hbb hbs hg hs
  go_enter Tryz.func13, Tryz.ntmps13
  go_upto_region 1 with fail
  change Code.wp _ _ _ _ (w.alloc (.cells (b8 (List.replicate 16 0)).toArray 39))
  rw [hW0]
  clear hW0
  go_wp2_with fail
  have HB2 := Lib.hid (Below.new (w := W1) (.cells #[.slice (some ⟨w.heap.size + 1, 0, none⟩) s.size tc] 52))
  have hball : Below w.heap.size w W1 := HM.out.2.1.trans (HB.out.2.1.mono (by omega))
  refine (sha_digest s HS.out W1.heap.size 1 (w.heap.size + 1) tc _ ((HG.out.below hball HG.out.size).below HB2.out (by have := HB.out.2.2; have := HG.out.size; omega)) (nc rfl) (fun i hi => al_cell _ (HB.out.1 i hi)) (by simp) (by have := HB.out.2.2; simp; omega)).mono ?_
  rintro e W4 ⟨rfl, hb4⟩
  have hbx : Below W1.heap.size W1 W4 := HB2.out.trans (hb4.mono (by simp))
  have hr0 := (hbx.block w.heap.size (by have := HB.out.2.2; omega)).trans ((HB.out.2.1.block w.heap.size (by omega)).trans HM.out.1)
  have hlen : (b8 (stageD Ks st s)).length = 16 := by rw [b8_len, stageD_len]
  have hb9 : Below w.heap.size w (putRow W4 w.heap.size (b8 (stageD Ks st s)).toArray) := put_below (hball.trans (hbx.mono hball.size)) (Nat.le_refl _)
  simp only []
  rename_i K0 hK0
  refine hK0 _ _ ?_
  refine wpList_store_mid rfl 39 (.tmp 2) (.tmp 6) rfl w.heap.size 0 (b8 (stageD Ks st s)).toArray rfl rfl (there_block hr0 (by simp [hlen, b8_len])) (by rw [List.size_toArray, hlen]; kernel_rfl) (all_oneCell_toArray (b8_one _)) ?_
  have hfin := put_same (cs := (b8 (stageD Ks st s)).toArray) hr0 (by simp [hlen, b8_len])
  change wpList _ _ _ _ _ (putRow W4 w.heap.size (b8 (stageD Ks st s)).toArray)
  revert hfin hb9
  generalize putRow W4 w.heap.size (b8 (stageD Ks st s)).toArray = W9
  intro hb9 hfin
  have HF := Lib.hid (And.intro hfin (And.intro hb9 hlen))
  clear hfin hb9 hr0 hlen hball hbx hb4
  go_wp2_with fail
  exact bodyPost_ret (v := .agg (b8 (stageD Ks st s)).toArray) (results_row Tryz.underlying39 rfl (n := 16) (by kernel_rfl) Tryz.results13 (r := w.heap.size) rfl HF.out.1 (by simpa using HF.out.2.2)) rfl ⟨rfl, HF.out.2.1⟩
end Go.Proofs.YtdeccekeknlnoaaGreatDoor
