/- Chapter 38: sanity of the laws is true. -/
import Derived.Test.YtdeccekeknlnoaaGreatDoorJLwP
namespace Go.Proofs.YtdeccekeknlnoaaGreatDoor
open Go.RowKit Go.Sort Go.Lib Go.Shelf
set_option maxRecDepth 1000000 in
set_option maxHeartbeats 1000000 in
theorem sanity_true {Ks : List Int} {st : V8} (w : World) (hg : Gl w) (hs : ShaG w Ks st) (hv : GlV w) :
    Calls Tryz.prog 7 #[] w fun e w' => e = .returned (.bool true) ∧ Below w.heap.size w w' := by
  obtain ⟨S, hS⟩ : ∃ S : Ending → World → Prop, (fun e w' => e = .returned (.bool true) ∧ Below w.heap.size w w') = S := ⟨_, rfl⟩
  rw [hS]
  have HSS := Lib.hid hS
  have HG := Lib.hid (And.intro hg (And.intro hs hv))
  obtain ⟨R, KD, LD⟩ := letD
  obtain ⟨B, NB, hB, hNB⟩ : ∃ B NB : Nat, B = 49 ∧ NB = 6 := ⟨_, _, rfl, rfl⟩
  have laR : ∀ w, Sem.run Tryz.prog (isAgg R) w = .ok true w := fun w => by rw [LD.ty]; exact Tryz.isAgg39 w
  have lzR : ∀ w, Sem.run Tryz.prog (sizeOf R) w = .ok KD w := fun w => by rw [LD.ty, LD.sz]; exact Tryz.sizeOf39 w
  have laB : ∀ w, Sem.run Tryz.prog (isAgg B) w = .ok true w := fun w => by rw [hB]; exact Tryz.isAgg49 w
  have lzB : ∀ w, Sem.run Tryz.prog (sizeOf B) w = .ok NB w := fun w => by rw [hB, hNB]; exact Tryz.sizeOf49 w
  have o1 : ∀ x, Op.load 39 x = Op.load R x := fun x => by rw [LD.ty]
  have o2 : Op.store 39 (.tmp 4) (.tmp 22) = Op.store R (.tmp 4) (.tmp 22) := by rw [LD.ty]
  have o3 : ∀ x, Op.load 49 x = Op.load B x := fun x => by rw [hB]
  have hDk : ∀ d : Dg, (b8 d.val).toArray.size = KD := fun d => by rw [LD.sz]; simpa using b8_16 d
  have hZ : ∀ (d : Dg) (W : World), Sem.run Tryz.prog (storeCells ⟨W.heap.size, 0, none⟩ (b8 d.val).toArray.toList) (W.alloc (.cells #[.int .u8 0, .int .u8 0, .int .u8 0, .int .u8 0, .int .u8 0, .int .u8 0, .int .u8 0, .int .u8 0, .int .u8 0, .int .u8 0, .int .u8 0, .int .u8 0, .int .u8 0, .int .u8 0, .int .u8 0, .int .u8 0] 39)) = .ok () (W.alloc (.cells (b8 d.val).toArray 39)) := fun d W =>
    st_new (by simpa using b8_16 d) (by rw [Array.all_eq_true_iff_forall_mem]; intro u hu; exact b8_one _ u (by simpa using hu))
  have HLD := Lib.hid (show ∀ (d : Dg) (V : World) (b : Nat), V.heap[b]? = some (.cells (b8 d.val).toArray 39 (0, 0)) → Sem.run Tryz.prog (loadCellsFrom ⟨b, 0, none⟩ 0 KD #[]) V = .ok (b8 d.val).toArray V from fun d V b h => ld_mid (N := KD) (n := 16) LD.sz (range_block h) (b8_16 d))
  obtain ⟨sd, hsd⟩ : ∃ d : Dg, d.val = stageD Ks st acc := ⟨⟨_, stageD_len _ _ _, stageD_lt _ _ _⟩, rfl⟩
  have hkav := hDk dA
  have hzav := fun W => hZ dA W
  have hkbv := hDk dB
  have hzbv := fun W => hZ dB W
  have hkcv := hDk dC
  have hzcv := fun W => hZ dC W
  have hksv := hDk sd
  have hba : ∀ w, Sem.run Tryz.prog (Instr.build 39 #[(0, .int .u8 1)]) w = .ok (.agg (b8 dA.val).toArray) w := fun w => build_d1 1 w
  have hbb : ∀ w, Sem.run Tryz.prog (Instr.build 39 #[(0, .int .u8 2)]) w = .ok (.agg (b8 dB.val).toArray) w := fun w => build_d1 2 w
  have hbc : ∀ w, Sem.run Tryz.prog (Instr.build 39 #[(0, .int .u8 3)]) w = .ok (.agg (b8 dC.val).toArray) w := fun w => build_d1 3 w
  -- the first worlds
  obtain ⟨W1, hW1⟩ : ∃ X, w.alloc (.cells (b8 dA.val).toArray 39) = X := ⟨_, rfl⟩
  have e1 : W1.heap[w.heap.size]? = some (.cells (b8 dA.val).toArray 39 (0, 0)) := by rw [← hW1]; exact heap_alloc_new _ _
  have b1 : Below w.heap.size w W1 := by rw [← hW1]; exact Below.new _
  obtain ⟨W2, hW2⟩ : ∃ X, W1.alloc (.cells (b8 dB.val).toArray 39) = X := ⟨_, rfl⟩
  have e2 : W2.heap[W1.heap.size]? = some (.cells (b8 dB.val).toArray 39 (0, 0)) := by rw [← hW2]; exact heap_alloc_new _ _
  have b2 : Below W1.heap.size W1 W2 := by rw [← hW2]; exact Below.new _
  obtain ⟨W3, hW3⟩ : ∃ X, W2.alloc (.cells (b8 dC.val).toArray 39) = X := ⟨_, rfl⟩
  have e3 : W3.heap[W2.heap.size]? = some (.cells (b8 dC.val).toArray 39 (0, 0)) := by rw [← hW3]; exact heap_alloc_new _ _
  have b3 : Below W2.heap.size W2 W3 := by rw [← hW3]; exact Below.new _
  have b13 : Below w.heap.size w W3 := (b1.trans (b2.mono b1.size)).trans (b3.mono (Nat.le_trans b1.size b2.size))
  have HK3 := Lib.hid (show ∀ V, Below W3.heap.size W3 V → Below w.heap.size w V ∧ V.heap[w.heap.size]? = some (.cells (b8 dA.val).toArray 39 (0, 0)) ∧ V.heap[W1.heap.size]? = some (.cells (b8 dB.val).toArray 39 (0, 0)) ∧ V.heap[W2.heap.size]? = some (.cells (b8 dC.val).toArray 39 (0, 0)) from fun V hV => by
    have e1' := (b3.block _ (lt_of_block ((b2.block _ (lt_of_block e1)).trans e1))).trans ((b2.block _ (lt_of_block e1)).trans e1)
    have e2' := (b3.block _ (lt_of_block e2)).trans e2
    exact ⟨b13.trans (hV.mono b13.size), (hV.block _ (lt_of_block e1')).trans e1', (hV.block _ (lt_of_block e2')).trans e2', (hV.block _ (lt_of_block e3)).trans e3⟩)
  have HST := Lib.hid (show Calls Tryz.prog 13 #[.string ⟨#[97, 99, 99, 101, 112, 116, 59]⟩] W3 fun e w' => e = .returned (.agg (b8 sd.val).toArray) ∧ Below W3.heap.size W3 w' from by
    rw [hsd]
    exact stage_digest acc (by decide) W3 (hs.below b13 hs.size))
  have HW := Lib.hid (And.intro hW1 (And.intro hW2 hW3))
  have HSD := Lib.hid hsd
  -- letters for the four values
  have HD16 := Lib.hid (And.intro dA.property.1 (And.intro dB.property.1 (And.intro dC.property.1 sd.property.1)))
  have hmv := fun w => build_move 7 dA.property.1 dB.property.1 w
  have hmv2 := fun w => build_move 7 dB.property.1 dC.property.1 w
  have hms := fun w => build_moves2 7 dA.property.1 dB.property.1 dC.property.1 w
  have hgr := fun A n c B m e w => build_grant 7 dA.property.1 ⟨#[97, 110, 121]⟩ A n c B m e w
  have hfc := fun w => build_fact 4 dC.property.1 w
  have hfs := fun w => build_fact 3 sd.property.1 w
  have hds := fun w => build_digs sd.property.1 w
  have hda := fun w => build_digs dA.property.1 w
  have hd3 := fun w => build_digs3 dA.property.1 dB.property.1 dC.property.1 w
  have HLa := Lib.hid (fun V (hV : Below W3.heap.size W3 V) => HLD.out dA V _ (HK3.out V hV).2.1)
  have HLb := Lib.hid (fun V (hV : Below W3.heap.size W3 V) => HLD.out dB V _ (HK3.out V hV).2.2.1)
  have HLc := Lib.hid (fun V (hV : Below W3.heap.size W3 V) => HLD.out dC V _ (HK3.out V hV).2.2.2)
  have HLs := Lib.hid (fun V b h => HLD.out sd V b h)
  have HKD := Lib.hid LD.sz
  have HSIZE := Lib.hid (And.intro (b8_16 sd) hNB)
  have HZIP := Lib.hid (show Array.foldl (fun (cs : Array Value) (x : Value × Nat) => cs.setIfInBounds x.snd x.fst) #[.int .u8 0, .int .u8 0, .int .u8 0, .int .u8 0, .int .u8 0, .int .u8 0, .int .u8 0, .int .u8 0, .int .u8 0, .int .u8 0, .int .u8 0, .int .u8 0, .int .u8 0, .int .u8 0, .int .u8 0, .int .u8 0] (b8 dA.val).toArray.zipIdx 0 KD = (b8 dA.val).toArray from by rw [LD.sz]; rfl)
  obtain ⟨av, hav⟩ : ∃ av, (b8 dA.val).toArray = av := ⟨_, rfl⟩
  rw [hav] at HZIP
  obtain ⟨bv, hbv⟩ : ∃ av, (b8 dB.val).toArray = av := ⟨_, rfl⟩
  obtain ⟨cv, hcv⟩ : ∃ av, (b8 dC.val).toArray = av := ⟨_, rfl⟩
  obtain ⟨sv, hsv⟩ : ∃ av, (b8 sd.val).toArray = av := ⟨_, rfl⟩
  have hzsv : ∀ W : World, Sem.run Tryz.prog (storeCells ⟨W.heap.size, 0, none⟩ sv.toList) (W.alloc (.cells #[.int .u8 0, .int .u8 0, .int .u8 0, .int .u8 0, .int .u8 0, .int .u8 0, .int .u8 0, .int .u8 0, .int .u8 0, .int .u8 0, .int .u8 0, .int .u8 0, .int .u8 0, .int .u8 0, .int .u8 0, .int .u8 0] 39)) = .ok () (W.alloc (.cells sv 39)) := fun W => by rw [← hsv]; exact hZ sd W
  have HV := Lib.hid (And.intro hav (And.intro hbv (And.intro hcv hsv)))
  have HLIT := Lib.hid (And.intro (show (#[Value.int .u8 1, Value.int .u8 0, Value.int .u8 0, Value.int .u8 0, Value.int .u8 0, Value.int .u8 0, Value.int .u8 0, Value.int .u8 0, Value.int .u8 0, Value.int .u8 0, Value.int .u8 0, Value.int .u8 0, Value.int .u8 0, Value.int .u8 0, Value.int .u8 0, Value.int .u8 0] : Array Value) = av by rw [← hav]; rfl) (And.intro (show (#[Value.int .u8 2, Value.int .u8 0, Value.int .u8 0, Value.int .u8 0, Value.int .u8 0, Value.int .u8 0, Value.int .u8 0, Value.int .u8 0, Value.int .u8 0, Value.int .u8 0, Value.int .u8 0, Value.int .u8 0, Value.int .u8 0, Value.int .u8 0, Value.int .u8 0, Value.int .u8 0] : Array Value) = bv by rw [← hbv]; rfl) (show (#[Value.int .u8 3, Value.int .u8 0, Value.int .u8 0, Value.int .u8 0, Value.int .u8 0, Value.int .u8 0, Value.int .u8 0, Value.int .u8 0, Value.int .u8 0, Value.int .u8 0, Value.int .u8 0, Value.int .u8 0, Value.int .u8 0, Value.int .u8 0, Value.int .u8 0, Value.int .u8 0] : Array Value) = cv by rw [← hcv]; rfl)))
  simp only [hav, hbv, hcv, hsv] at hkav hkbv hkcv hksv hzav hzbv hzcv hba hbb hbc HW HST hmv hmv2 hgr hfc hfs hds hda hd3 HLa HLb HLc HLs
  clear hS hg hs hv LD hB hNB hDk hZ hW1 e1 b1 hW2 e2 b2 hW3 e3 b3 b13 hsd hav hbv hcv hsv HLD
  go_enter Tryz.func7, Tryz.ntmps7
  simp only [o1, o2, o3]
  clear o1 o2 o3
  go_upto_region 2 with fail
  rw [HLIT.out.1, HW.out.1]
  go_upto_region 3 with fail
  rw [HLIT.out.2.1, HW.out.2.1]
  go_upto_region 4 with fail
  rw [HLIT.out.2.2, HW.out.2.2]
  go_upto_region 5 with (go_at_call 13; refine HST.out.mono ?_; rintro e W4 ⟨rfl, hb4⟩)

  obtain ⟨W5, hW5⟩ : ∃ X, W4.alloc (.cells sv 39) = X := ⟨_, rfl⟩
  rw [hW5]
  have b5 : Below W3.heap.size W3 W5 := by rw [← hW5]; exact hb4.alloc hb4.size _
  have e5 : W5.heap[W4.heap.size]? = some (.cells sv 39 (0, 0)) := by rw [← hW5]; exact heap_alloc_new _ _
  have l5 := HLs.out W5 _ e5
  obtain ⟨W6, hW6⟩ : ∃ X, W5.alloc (.cells sv 39) = X := ⟨_, rfl⟩
  obtain ⟨W7, hW7⟩ : ∃ X, W6.alloc (.cells #[.string ⟨#[97, 99, 99, 101, 112, 116, 59]⟩] 9) = X := ⟨_, rfl⟩
  obtain ⟨W8, hW8⟩ : ∃ X, W7.alloc (.cells #[.int .i64 1, .int .i64 1, .int .i64 0, .slice (some ⟨W5.heap.size, 0, none⟩) 1 1, .slice none 0 0, .slice (some ⟨W6.heap.size, 0, none⟩) 1 1] 49) = X := ⟨_, rfl⟩
  have h56 := hds W5
  rw [hW6] at h56
  have h67 := build_texts ⟨#[97, 99, 99, 101, 112, 116, 59]⟩ W6
  rw [hW7] at h67
  have HW5 := Lib.hid hW5
  have HW6 := Lib.hid hW6
  have HW7 := Lib.hid hW7
  have HW8 := Lib.hid hW8
  clear hW5 hW6 hW7 hW8
  refine wp_region_list ?_
  refine wpList_step (fun K hK => ?_)
  go_simp
  refine hK _ _ ?_
  clear hK K
  try simp only [Act.put, List.setIfInBounds_toArray, List.set_cons_zero, List.set_cons_succ]
  refine wpList_step (fun K hK => ?_)
  refine step_val rfl (exec_slice1 rfl rfl (h56)) ?_
  refine hK _ _ ?_
  clear hK K
  try simp only [Act.put, List.setIfInBounds_toArray, List.set_cons_zero, List.set_cons_succ]
  refine wpList_step (fun K hK => ?_)
  refine step_val rfl (exec_build3 rfl rfl rfl rfl (build_manif _ _ _ _)) ?_
  refine hK _ _ ?_
  clear hK K
  try simp only [Act.put, List.setIfInBounds_toArray, List.set_cons_zero, List.set_cons_succ]
  refine wpList_step (fun K hK => ?_)
  refine step_val rfl (exec_slice1 rfl rfl (h67)) ?_
  refine hK _ _ ?_
  clear hK K
  try simp only [Act.put, List.setIfInBounds_toArray, List.set_cons_zero, List.set_cons_succ]
  refine wpList_step (fun K hK => ?_)
  refine step_val rfl (exec_build2 rfl rfl rfl (build_bundle _ _ _ _ _ _ _)) ?_
  refine hK _ _ ?_
  clear hK K
  try simp only [Act.put, List.setIfInBounds_toArray, List.set_cons_zero, List.set_cons_succ]
  go_upto_region 6 with fail
  rw [HW8.out]
  have b58 : Below W5.heap.size W5 W8 := by
    have x6 : Below W5.heap.size W5 W6 := by rw [← HW6.out]; exact Below.new _
    have x7 : Below W5.heap.size W5 W7 := by rw [← HW7.out]; exact x6.alloc x6.size _
    rw [← HW8.out]
    exact x7.alloc x7.size _
  have b8' : Below W3.heap.size W3 W8 := b5.trans (b58.mono b5.size)
  have eS : W8.heap[W4.heap.size]? = some (.cells sv 39 (0, 0)) := (b58.block _ (lt_of_block e5)).trans e5
  have eG : W8.heap[W6.heap.size]? = some (.cells #[.string ⟨#[97, 99, 99, 101, 112, 116, 59]⟩] 9 (0, 0)) := by
    have x : W7.heap[W6.heap.size]? = some (.cells #[.string ⟨#[97, 99, 99, 101, 112, 116, 59]⟩] 9 (0, 0)) := by rw [← HW7.out]; exact heap_alloc_new _ _
    have y : Below W7.heap.size W7 W8 := by rw [← HW8.out]; exact Below.new _
    exact (y.block _ (lt_of_block x)).trans x
  have eB : W8.heap[W7.heap.size]? = some (.cells #[.int .i64 1, .int .i64 1, .int .i64 0, .slice (some ⟨W5.heap.size, 0, none⟩) 1 1, .slice none 0 0, .slice (some ⟨W6.heap.size, 0, none⟩) 1 1] 49 (0, 0)) := by rw [← HW8.out]; exact heap_alloc_new _ _
  have l1 := HLa.out W8 b8'
  have lB : Sem.run Tryz.prog (loadCellsFrom ⟨W7.heap.size, 0, none⟩ 0 NB #[]) W8 = .ok #[.int .i64 1, .int .i64 1, .int .i64 0, .slice (some ⟨W5.heap.size, 0, none⟩) 1 1, .slice none 0 0, .slice (some ⟨W6.heap.size, 0, none⟩) 1 1] W8 := by
    have := ld_mid (N := NB) (n := 6) HSIZE.out.2 (range_block eB) rfl
    exact this
  obtain ⟨W9, hW9⟩ : ∃ X, W8.alloc (.cells #[.int .i64 1, .int .i64 1, .int .i64 0, .slice (some ⟨W5.heap.size, 0, none⟩) 1 1, .slice none 0 0, .slice (some ⟨W6.heap.size, 0, none⟩) 1 1] 49) = X := ⟨_, rfl⟩
  have h89 := build_bundles (some ⟨W5.heap.size, 0, none⟩) 1 1 (some ⟨W6.heap.size, 0, none⟩) 1 1 W8
  rw [hW9] at h89
  obtain ⟨W10, hW10⟩ : ∃ X, W9.alloc (.cells #[.int .i64 0] 3) = X := ⟨_, rfl⟩
  have h910 := build_eps W9
  rw [hW10] at h910
  have hgr1 := hgr (some ⟨W8.heap.size, 0, none⟩) 1 1 (some ⟨W9.heap.size, 0, none⟩) 1 1 W10
  have hgr2 := build_grants 7 HD16.out.1 ⟨#[97, 110, 121]⟩ (some ⟨W8.heap.size, 0, none⟩) 1 1 (some ⟨W9.heap.size, 0, none⟩) 1 1 W10
  obtain ⟨gv, hgv⟩ : ∃ gv, (Value.int .i64 7 :: (b8 dA.val ++ [.string ⟨#[97, 110, 121]⟩, .slice (some ⟨W8.heap.size, 0, none⟩) 1 1, .slice (some ⟨W9.heap.size, 0, none⟩) 1 1])).toArray = gv := ⟨_, rfl⟩
  rw [hgv] at hgr1 hgr2
  obtain ⟨W11, hW11⟩ : ∃ X, W10.alloc (.cells gv 43) = X := ⟨_, rfl⟩
  rw [hW11] at hgr2
  have b89 : Below W8.heap.size W8 W9 := by rw [← hW9]; exact Below.new _
  have b810 : Below W8.heap.size W8 W10 := by rw [← hW10]; exact b89.alloc b89.size _
  have b811 : Below W8.heap.size W8 W11 := by rw [← hW11]; exact b810.alloc b810.size _
  have e9 : W11.heap[W8.heap.size]? = some (.cells #[.int .i64 1, .int .i64 1, .int .i64 0, .slice (some ⟨W5.heap.size, 0, none⟩) 1 1, .slice none 0 0, .slice (some ⟨W6.heap.size, 0, none⟩) 1 1] 49 (0, 0)) := by
    have x := heap_alloc_new W8 (.cells #[.int .i64 1, .int .i64 1, .int .i64 0, .slice (some ⟨W5.heap.size, 0, none⟩) 1 1, .slice none 0 0, .slice (some ⟨W6.heap.size, 0, none⟩) 1 1] 49)
    rw [hW9] at x
    have y : Below W9.heap.size W9 W11 := by
      have z : Below W9.heap.size W9 W10 := by rw [← hW10]; exact Below.new _
      rw [← hW11]; exact z.alloc z.size _
    exact (y.block _ (lt_of_block x)).trans x
  have e10 : W11.heap[W9.heap.size]? = some (.cells #[.int .i64 0] 3 (0, 0)) := by
    have x := heap_alloc_new W9 (.cells #[.int .i64 0] 3)
    rw [hW10] at x
    have y : Below W10.heap.size W10 W11 := by rw [← hW11]; exact Below.new _
    exact (y.block _ (lt_of_block x)).trans x
  have e11 : W11.heap[W10.heap.size]? = some (.cells gv 43 (0, 0)) := by rw [← hW11]; exact heap_alloc_new _ _
  have b11 : Below W3.heap.size W3 W11 := b8'.trans (b811.mono b8'.size)
  have H11 := Lib.hid (And.intro b11 (And.intro ((b811.block _ (lt_of_block eS)).trans eS) (And.intro ((b811.block _ (lt_of_block eG)).trans eG) (And.intro e9 (And.intro e10 (And.intro e11 hgv))))))
  clear hW9 hW10 hW11 b5 e5 l5 h56 h67 b58 b8' eS eG eB b89 b810 b811 e9 e10 e11 b11 hgv hgr hb4
  refine wp_region_list ?_
  refine wpList_step (fun K hK => ?_)
  go_simp
  refine hK _ _ ?_
  clear hK K
  try simp only [Act.put, List.setIfInBounds_toArray, List.set_cons_zero, List.set_cons_succ]
  refine wpList_step (fun K hK => ?_)
  go_simp
  refine hK _ _ ?_
  clear hK K
  try simp only [Act.put, List.setIfInBounds_toArray, List.set_cons_zero, List.set_cons_succ]
  refine wpList_step (fun K hK => ?_)
  refine step_val rfl (exec_slice1 rfl rfl (h89)) ?_
  refine hK _ _ ?_
  clear hK K
  try simp only [Act.put, List.setIfInBounds_toArray, List.set_cons_zero, List.set_cons_succ]
  refine wpList_step (fun K hK => ?_)
  refine step_val rfl (exec_slice1 rfl rfl (h910)) ?_
  refine hK _ _ ?_
  clear hK K
  try simp only [Act.put, List.setIfInBounds_toArray, List.set_cons_zero, List.set_cons_succ]
  refine wpList_step (fun K hK => ?_)
  refine step_val rfl (exec_build5 rfl rfl rfl rfl rfl rfl (hgr1)) ?_
  refine hK _ _ ?_
  clear hK K
  try simp only [Act.put, List.setIfInBounds_toArray, List.set_cons_zero, List.set_cons_succ]
  refine wpList_step (fun K hK => ?_)
  refine step_val rfl (exec_slice1 rfl rfl (hgr2)) ?_
  refine hK _ _ ?_
  clear hK K
  try simp only [Act.put, List.setIfInBounds_toArray, List.set_cons_zero, List.set_cons_succ]
  go_upto_region 7 with fail
  clear l1 lB h89 h910 hgr1 hgr2
  have l1 := HLa.out W11 H11.out.1
  have l2 := HLb.out W11 H11.out.1
  have l3 := HLc.out W11 H11.out.1
  have hm1 := hmv W11
  have hm2 := hmv2 W11
  have hm3 := hms W11
  obtain ⟨mv1, hmv1⟩ : ∃ x, (Value.int .i64 7 :: (b8 dA.val ++ b8 dB.val)).toArray = x := ⟨_, rfl⟩
  obtain ⟨mv2, hmv2'⟩ : ∃ x, (Value.int .i64 7 :: (b8 dB.val ++ b8 dC.val)).toArray = x := ⟨_, rfl⟩
  rw [hmv1] at hm1 hm3
  rw [hmv2'] at hm2 hm3
  obtain ⟨mm, hmm⟩ : ∃ x, ((Value.int .i64 7 :: (b8 dA.val ++ b8 dB.val)) ++ (Value.int .i64 7 :: (b8 dB.val ++ b8 dC.val))).toArray = x := ⟨_, rfl⟩
  rw [hmm] at hm3
  obtain ⟨W12, hW12⟩ : ∃ X, W11.alloc (.cells mm 55) = X := ⟨_, rfl⟩
  rw [hW12] at hm3
  have b1112 : Below W11.heap.size W11 W12 := by rw [← hW12]; exact Below.new _
  have e12 : W12.heap[W11.heap.size]? = some (.cells mm 55 (0, 0)) := by rw [← hW12]; exact heap_alloc_new _ _
  have H12 := Lib.hid (And.intro b1112 (And.intro e12 hmm))
  clear hmv hmv2 hms hmv1 hmv2' hmm hW12 b1112 e12
  refine wp_region_list ?_
  refine wpList_step (fun K hK => ?_)
  go_simp
  refine hK _ _ ?_
  clear hK K
  try simp only [Act.put, List.setIfInBounds_toArray, List.set_cons_zero, List.set_cons_succ]
  refine wpList_step (fun K hK => ?_)
  go_simp
  refine hK _ _ ?_
  clear hK K
  try simp only [Act.put, List.setIfInBounds_toArray, List.set_cons_zero, List.set_cons_succ]
  refine wpList_step (fun K hK => ?_)
  refine step_val rfl (exec_build3 rfl rfl rfl rfl (hm1)) ?_
  refine hK _ _ ?_
  clear hK K
  try simp only [Act.put, List.setIfInBounds_toArray, List.set_cons_zero, List.set_cons_succ]
  refine wpList_step (fun K hK => ?_)
  go_simp
  refine hK _ _ ?_
  clear hK K
  try simp only [Act.put, List.setIfInBounds_toArray, List.set_cons_zero, List.set_cons_succ]
  refine wpList_step (fun K hK => ?_)
  go_simp
  refine hK _ _ ?_
  clear hK K
  try simp only [Act.put, List.setIfInBounds_toArray, List.set_cons_zero, List.set_cons_succ]
  refine wpList_step (fun K hK => ?_)
  refine step_val rfl (exec_build3 rfl rfl rfl rfl (hm2)) ?_
  refine hK _ _ ?_
  clear hK K
  try simp only [Act.put, List.setIfInBounds_toArray, List.set_cons_zero, List.set_cons_succ]
  refine wpList_step (fun K hK => ?_)
  refine step_val rfl (exec_slice2 rfl rfl rfl (hm3)) ?_
  refine hK _ _ ?_
  clear hK K
  try simp only [Act.put, List.setIfInBounds_toArray, List.set_cons_zero, List.set_cons_succ]
  go_upto_region 8 with fail
  clear l1 l2 l3 hm1 hm2 hm3
  have b12 : Below W3.heap.size W3 W12 := H11.out.1.trans (H12.out.1.mono H11.out.1.size)
  have l3 := HLc.out W12 b12
  have hf1 := hfc W12
  have HAD := Lib.hid (di_add 4 (Or.inr rfl) dC.val HD16.out.2.2.1 dC.property.2 W12)
  unfold factC at HAD
  obtain ⟨fc, hfc'⟩ : ∃ x, (([.int .i64 4, .string ⟨#[]⟩, .int .i64 0, .int .i64 0, .int .i64 0, .slice none 0 0] : List Value) ++ b8 dC.val).toArray = x := ⟨_, rfl⟩
  rw [hfc'] at hf1
  rw [show (([.int .i64 ((4 : Nat) : Int), .string ⟨#[]⟩, .int .i64 0, .int .i64 0, .int .i64 0, .slice none 0 0] : List Value) ++ b8 dC.val).toArray = fc from hfc'] at HAD
  clear hfc hfc' b12
  refine wp_region_list ?_
  refine wpList_step (fun K hK => ?_)
  go_simp
  refine hK _ _ ?_
  clear hK K
  try simp only [Act.put, List.setIfInBounds_toArray, List.set_cons_zero, List.set_cons_succ]
  refine wpList_step (fun K hK => ?_)
  go_simp
  refine hK _ _ ?_
  clear hK K
  try simp only [Act.put, List.setIfInBounds_toArray, List.set_cons_zero, List.set_cons_succ]
  refine wpList_step (fun K hK => ?_)
  refine step_val rfl (exec_build2 rfl rfl rfl (hf1)) ?_
  refine hK _ _ ?_
  clear hK K
  try simp only [Act.put, List.setIfInBounds_toArray, List.set_cons_zero, List.set_cons_succ]
  go_upto_region 9 with (go_at_call 20; refine HAD.out.mono ?_; rintro e W13 ⟨v1, rfl, ⟨g1, c1, rfl, hg1, hr1⟩, hb13⟩)
  obtain ⟨W14, hW14⟩ : ∃ X, W13.alloc (.cells #[.slice (some ⟨g1, 0, none⟩) 1 c1] 24) = X := ⟨_, rfl⟩
  rw [hW14]
  have b1314 : Below W13.heap.size W13 W14 := by rw [← hW14]; exact Below.new _
  have e14 : W14.heap[W13.heap.size]? = some (.cells #[.slice (some ⟨g1, 0, none⟩) 1 c1] 24 (0, 0)) := by rw [← hW14]; exact heap_alloc_new _ _
  have b1214 : Below W12.heap.size W12 W14 := hb13.trans (b1314.mono hb13.size)
  have f14 : FactAt W14 (.slice (some ⟨g1, 0, none⟩) 1 c1) 4 dC.val := FactAt.below ⟨g1, c1, rfl, hg1, hr1⟩ b1314
  have b1114 : Below W11.heap.size W11 W14 := H12.out.1.trans (b1214.mono H12.out.1.size)
  have lS := HLs.out W14 _ ((b1114.block _ (lt_of_block H11.out.2.1)).trans H11.out.2.1)
  have H14 := Lib.hid (And.intro b1114 (And.intro e14 (And.intro f14 b1214)))
  have hf2 := hfs W14
  have HAD2 := Lib.hid (di_add 3 (Or.inl rfl) sd.val HD16.out.2.2.2 sd.property.2 W14)
  unfold factC at HAD2
  obtain ⟨fc2, hfc2⟩ : ∃ x, (([.int .i64 3, .string ⟨#[]⟩, .int .i64 0, .int .i64 0, .int .i64 0, .slice none 0 0] : List Value) ++ b8 sd.val).toArray = x := ⟨_, rfl⟩
  rw [hfc2] at hf2
  rw [show (([.int .i64 ((3 : Nat) : Int), .string ⟨#[]⟩, .int .i64 0, .int .i64 0, .int .i64 0, .slice none 0 0] : List Value) ++ b8 sd.val).toArray = fc2 from hfc2] at HAD2
  clear hf1 l3 HAD hfs hfc2 hW14 b1314 e14 b1214 f14 b1114 hg1 hr1 hb13
  refine wp_region_list ?_
  refine wpList_step (fun K hK => ?_)
  go_simp
  refine hK _ _ ?_
  clear hK K
  try simp only [Act.put, List.setIfInBounds_toArray, List.set_cons_zero, List.set_cons_succ]
  refine wpList_step (fun K hK => ?_)
  go_simp
  refine hK _ _ ?_
  clear hK K
  try simp only [Act.put, List.setIfInBounds_toArray, List.set_cons_zero, List.set_cons_succ]
  refine wpList_step (fun K hK => ?_)
  refine step_val rfl (exec_build2 rfl rfl rfl (hf2)) ?_
  refine hK _ _ ?_
  clear hK K
  try simp only [Act.put, List.setIfInBounds_toArray, List.set_cons_zero, List.set_cons_succ]
  go_upto_region 10 with (go_at_call 20; refine HAD2.out.mono ?_; rintro e W15 ⟨v2, rfl, ⟨g2, c2, rfl, hg2, hr2⟩, hb15⟩)
  obtain ⟨W16, hW16⟩ : ∃ X, W15.alloc (.cells #[.slice (some ⟨g2, 0, none⟩) 1 c2] 24) = X := ⟨_, rfl⟩
  rw [hW16]
  have b1516 : Below W15.heap.size W15 W16 := by rw [← hW16]; exact Below.new _
  have e16 : W16.heap[W15.heap.size]? = some (.cells #[.slice (some ⟨g2, 0, none⟩) 1 c2] 24 (0, 0)) := by rw [← hW16]; exact heap_alloc_new _ _
  have f16 : FactAt W16 (.slice (some ⟨g2, 0, none⟩) 1 c2) 3 sd.val := FactAt.below ⟨g2, c2, rfl, hg2, hr2⟩ b1516
  have b1416 : Below W14.heap.size W14 W16 := hb15.trans (b1516.mono hb15.size)
  -- everything of the last world, for all later ones
  have HALL := Lib.hid (show ∀ V, Below W16.heap.size W16 V → Below w.heap.size w V ∧ Below W3.heap.size W3 V ∧ Gl V ∧ ShaG V Ks st ∧ GlV V ∧ Dir1 V (.slice (some ⟨g1, 0, none⟩) 1 c1) (some (4, dC.val)) ∧ Dir1 V (.slice (some ⟨g2, 0, none⟩) 1 c2) (some (3, sd.val)) ∧
      GrAt V (grl 7 dA [.string ⟨#[97, 110, 121]⟩, .slice (some ⟨W8.heap.size, 0, none⟩) 1 1, .slice (some ⟨W9.heap.size, 0, none⟩) 1 1]).toArray W8.heap.size 1 W9.heap.size 1 W5.heap.size 1 W6.heap.size 1 ∧
      V.rangeAt W10.heap.size 0 (grl 7 dA [.string ⟨#[97, 110, 121]⟩, .slice (some ⟨W8.heap.size, 0, none⟩) 1 1, .slice (some ⟨W9.heap.size, 0, none⟩) 1 1]) ∧ W10.heap.size < V.heap.size ∧ MvAt V (some ⟨W11.heap.size, 0, none⟩) mvABC ∧
      V.cell? ⟨W13.heap.size, 0, none⟩ = some (.slice (some ⟨g1, 0, none⟩) 1 c1) ∧ V.cell? ⟨W15.heap.size, 0, none⟩ = some (.slice (some ⟨g2, 0, none⟩) 1 c2) from fun V hV => by
    have x14 : Below W14.heap.size W14 V := b1416.trans (hV.mono b1416.size)
    have x12 : Below W12.heap.size W12 V := H14.out.2.2.2.trans (x14.mono H14.out.2.2.2.size)
    have x11 : Below W11.heap.size W11 V := H14.out.1.trans (x14.mono H14.out.1.size)
    have x3 : Below W3.heap.size W3 V := H11.out.1.trans (x11.mono H11.out.1.size)
    have x0 := (HK3.out V x3).1
    obtain ⟨-, -, eG, e9, e10, e11, hgv⟩ := H11.out
    have up : ∀ {b : Nat} {o : Obj}, W11.heap[b]? = some o → V.heap[b]? = some o := fun h => (x11.block _ (lt_of_block h)).trans h
    have hrg : V.rangeAt W10.heap.size 0 (grl 7 dA [.string ⟨#[97, 110, 121]⟩, .slice (some ⟨W8.heap.size, 0, none⟩) 1 1, .slice (some ⟨W9.heap.size, 0, none⟩) 1 1]) := fun j u hu => range_block (up e11) j u (by rw [← hgv]; exact hu)
    refine ⟨x0, x3, HG.out.1.mem x0, HG.out.2.1.below x0 HG.out.2.1.size, HG.out.2.2.mem x0, ⟨FactAt.below H14.out.2.2.1 x14, Or.inr rfl, dC.property⟩, ⟨FactAt.below f16 hV, Or.inl rfl, sd.property⟩, ?_, hrg, lt_of_block (up e11), ?_, ?_, ?_⟩
    · refine ⟨by simp [grl, b8_16], ?_, ?_, ?_, lt_of_block (up e9), lt_of_block (up e10), lt_of_block (up eG), range_block (up e9), (one_cell (up e10)).1, (one_cell (up eG)).1⟩
      all_goals
        simp only [grl]
        rw [List.getElem?_cons_succ, List.getElem?_append_right (by rw [b8_16]; decide), b8_16]
        rfl
    · refine mv_abc (t := 55) ?_
      rw [H12.out.2.2]
      exact (x12.block _ (lt_of_block H12.out.2.1)).trans H12.out.2.1
    · exact (one_cell ((x14.block _ (lt_of_block H14.out.2.1)).trans H14.out.2.1)).1
    · exact (one_cell ((hV.block _ (lt_of_block e16)).trans e16)).1)
  clear hf2 lS HAD2 hW16 b1516 e16 f16 b1416 hg2 hr2 hb15
  have HR1 := Lib.hid (show ∀ u ∈ ([.string ⟨#[97, 110, 121]⟩, .slice (some ⟨W8.heap.size, 0, none⟩) 1 1, .slice (some ⟨W9.heap.size, 0, none⟩) 1 1] : List Value), u.oneCell' = true from fun u hu => by
    simp only [List.mem_cons, List.mem_nil_iff, or_false] at hu
    rcases hu with rfl | rfl | rfl <;> rfl)
  have HOF1 := Lib.hid (show Calls Tryz.prog 10 #[.agg #[.slice none 0 0], .slice (some ⟨W10.heap.size, 0, none⟩) 1 1, .slice (some ⟨W11.heap.size, 0, none⟩) 2 2] W16 (OfKn W16 0 [dA, dB, dC]) from by
    obtain ⟨-, -, k1, k2, k3, -, -, k6, k7, k8, k9, -⟩ := HALL.out W16 (Below.refl _ _)
    exact (of_one none (.slice none 0 0) 7 dA _ rfl HR1.out _ _ _ _ _ _ _ _ mvABC (some ⟨W11.heap.size, 0, none⟩) W10.heap.size 1 2 W16 k1 k2 k3 rfl k6 k7 k8 k9 (by decide)).mono fun e w' h => of_is h (fun m hm => is_abc hm) (kind_none _))
  go_upto_region 11 with (go_at_call 10; refine HOF1.out.mono ?_; rintro e W17 ⟨A17, n17, c17, rfl, hx17, hb17⟩)
  have HX17 := Lib.hid (And.intro hx17 hb17)
  have v17 := (HALL.out W17 hb17).2.2.2.2.2.2.2.2.2.2.2.1
  have HOF2 := Lib.hid (show Calls Tryz.prog 10 #[.agg #[.slice (some ⟨g1, 0, none⟩) 1 c1], .slice (some ⟨W10.heap.size, 0, none⟩) 1 1, .slice (some ⟨W11.heap.size, 0, none⟩) 2 2] W17 (OfKn W17 2 [dA, dB, dC]) from by
    obtain ⟨-, -, k1, k2, k3, k4, -, k6, k7, k8, k9, -⟩ := HALL.out W17 hb17
    exact (of_one (some (4, dC.val)) _ 7 dA _ rfl HR1.out _ _ _ _ _ _ _ _ mvABC (some ⟨W11.heap.size, 0, none⟩) W10.heap.size 1 2 W17 k1 k2 k3 k4 k6 k7 k8 k9 (by decide)).mono fun e w' h => of_is h (fun m hm => is_abc hm) (kind_bad _))
  clear hx17 hb17 HOF1
  go_upto_region 12 with (go_at_call 10; refine HOF2.out.mono ?_; rintro e W18 ⟨A18, n18, c18, rfl, hx18, hb18⟩)
  have hb18' := HX17.out.2.trans (hb18.mono HX17.out.2.size)
  have HX18 := Lib.hid (And.intro hx18 (And.intro hb18 hb18'))
  have v18 := (HALL.out W18 hb18').2.2.2.2.2.2.2.2.2.2.2.2
  have HOF3 := Lib.hid (show Calls Tryz.prog 10 #[.agg #[.slice (some ⟨g2, 0, none⟩) 1 c2], .slice (some ⟨W10.heap.size, 0, none⟩) 1 1, .slice none 0 0] W18 (OfKn W18 1 [dA]) from by
    obtain ⟨-, -, k1, k2, k3, -, k4, k6, k7, k8, -⟩ := HALL.out W18 hb18'
    exact (of_one (some (3, sd.val)) _ 7 dA _ rfl HR1.out _ _ _ _ _ _ _ _ [] none W10.heap.size 1 0 W18 k1 k2 k3 k4 k6 k7 k8 (fun i m hi => by simp at hi) (by decide)).mono fun e w' h => of_is h (fun m hm => is_a hm) (by rw [← HSD.out]; exact kind_rev _))
  clear hx18 hb18 hb18' HOF2 v17
  go_upto_region 13 with (go_at_call 10; refine HOF3.out.mono ?_; rintro e W19 ⟨A19, n19, c19, rfl, hx19, hb19⟩)
  have hb19' := HX18.out.2.2.trans (hb19.mono HX18.out.2.2.size)
  have HX19 := Lib.hid (And.intro hx19 (And.intro hb19 hb19'))
  clear v18 HOF3
  have x3 := (HALL.out W19 hb19').2.1
  have l1 := HLa.out W19 x3
  have l2 := HLb.out W19 x3
  have l3 := HLc.out W19 x3
  have hd3' := hd3 W19
  obtain ⟨dv, hdv⟩ : ∃ x, (b8 dA.val ++ b8 dB.val ++ b8 dC.val).toArray = x := ⟨_, rfl⟩
  obtain ⟨W20, hW20⟩ : ∃ X, W19.alloc (.cells dv 39) = X := ⟨_, rfl⟩
  rw [hdv, hW20] at hd3'
  have b1920 : Below W19.heap.size W19 W20 := by rw [← hW20]; exact Below.new _
  have e20 : W20.heap[W19.heap.size]? = some (.cells (dgFlat [dA, dB, dC]).toArray 39 (0, 0)) := by
    rw [← hW20, show dgFlat [dA, dB, dC] = b8 dA.val ++ b8 dB.val ++ b8 dC.val by simp [dgFlat], hdv]
    exact heap_alloc_new _ _
  have H20 := Lib.hid (And.intro b1920 e20)
  clear hx19 hb19 hb19' x3 hd3 hdv hW20 b1920 e20
  refine wp_region_list ?_
  refine wpList_step (fun K hK => ?_)
  go_simp
  refine hK _ _ ?_
  clear hK K
  try simp only [Act.put, List.setIfInBounds_toArray, List.set_cons_zero, List.set_cons_succ]
  refine wpList_step (fun K hK => ?_)
  go_simp
  refine hK _ _ ?_
  clear hK K
  try simp only [Act.put, List.setIfInBounds_toArray, List.set_cons_zero, List.set_cons_succ]
  refine wpList_step (fun K hK => ?_)
  go_simp
  refine hK _ _ ?_
  clear hK K
  try simp only [Act.put, List.setIfInBounds_toArray, List.set_cons_zero, List.set_cons_succ]
  refine wpList_step (fun K hK => ?_)
  refine step_val rfl (exec_slice3 rfl rfl rfl rfl (hd3')) ?_
  refine hK _ _ ?_
  clear hK K
  try simp only [Act.put, List.setIfInBounds_toArray, List.set_cons_zero, List.set_cons_succ]
  go_upto_region 14 with fail
  clear l1 l2 l3 hd3'
  have HSM1 := Lib.hid (show Calls Tryz.prog 23 #[.slice A17 n17 c17, .slice (some ⟨W20.heap.size, 0, none⟩) 1 1] (W20.alloc (.cells #[.int .i64 7, .int .i64 0, .slice (some ⟨W19.heap.size, 0, none⟩) 3 3] 36)) (fun e w' => e = .returned (.bool true) ∧ ∃ n, w' = (W20.alloc (.cells #[.int .i64 7, .int .i64 0, .slice (some ⟨W19.heap.size, 0, none⟩) 3 3] 36)).drewN n) from by
    have x : Below W17.heap.size W17 W20 := (HX18.out.2.1.trans (HX19.out.2.1.mono HX18.out.2.1.size)).trans (H20.out.1.mono (HX18.out.2.1.trans (HX19.out.2.1.mono HX18.out.2.1.size)).size)
    exact ref_same _ _ 7 0 [dA, dB, dC] _ (exp_below (exp_below HX17.out.1 x) (Below.new _)) (exp_new 0 H20.out.2 3 (Nat.le_refl _) (by decide)))
  have HSM2 := Lib.hid (show ∀ V, Below W20.heap.size W20 V → Calls Tryz.prog 23 #[.slice A18 n18 c18, .slice (some ⟨V.heap.size, 0, none⟩) 1 1] (V.alloc (.cells #[.int .i64 7, .int .i64 2, .slice (some ⟨W19.heap.size, 0, none⟩) 3 3] 36)) (fun e w' => e = .returned (.bool true) ∧ ∃ n, w' = (V.alloc (.cells #[.int .i64 7, .int .i64 2, .slice (some ⟨W19.heap.size, 0, none⟩) 3 3] 36)).drewN n) from fun V hV => by
    have x : Below W18.heap.size W18 W20 := HX19.out.2.1.trans (H20.out.1.mono HX19.out.2.1.size)
    exact ref_same _ _ 7 2 [dA, dB, dC] _ (exp_below (exp_below (exp_below HX18.out.1 x) hV) (Below.new _)) (exp_new 2 ((hV.block _ (lt_of_block H20.out.2)).trans H20.out.2) 3 (Nat.le_refl _) (by decide)))
  have HSM3 := Lib.hid (show ∀ V, Below W20.heap.size W20 V → Calls Tryz.prog 23 #[.slice A19 n19 c19, .slice (some ⟨V.heap.size + 1, 0, none⟩) 1 1] ((V.alloc (.cells av 39)).alloc (.cells #[.int .i64 7, .int .i64 1, .slice (some ⟨V.heap.size, 0, none⟩) 1 1] 36)) (fun e w' => e = .returned (.bool true) ∧ ∃ n, w' = ((V.alloc (.cells av 39)).alloc (.cells #[.int .i64 7, .int .i64 1, .slice (some ⟨V.heap.size, 0, none⟩) 1 1] 36)).drewN n) from fun V hV => by
    obtain ⟨X, hX⟩ : ∃ X, V.alloc (.cells av 39) = X := ⟨_, rfl⟩
    have x : Below W19.heap.size W19 V := H20.out.1.trans (hV.mono H20.out.1.size)
    have y : Below V.heap.size V X := by rw [← hX]; exact Below.new _
    have e : X.heap[V.heap.size]? = some (.cells (dgFlat [dA]).toArray 39 (0, 0)) := by
      rw [← hX, show (dgFlat [dA]).toArray = av by rw [← HV.out.1]; simp [dgFlat]]
      exact heap_alloc_new _ _
    have z : V.heap.size + 1 = X.heap.size := by rw [← hX]; simp
    rw [hX, z]
    exact ref_same _ _ 7 1 [dA] _ (exp_below (exp_below (exp_below HX19.out.1 x) y) (Below.new _)) (exp_new 1 e 1 (Nat.le_refl _) (by decide)))
  go_wp2_with (first
    | (go_at_call 23; (with_reducible refine HSM1.out.mono ?_); rintro e W21 ⟨rfl, q1, hq1⟩; have hb21 : Below W20.heap.size W20 W21 := (by rw [hq1]; exact below_drewN (Below.new _) _); clear hq1)
    | (go_at_call 23; (with_reducible refine (HSM2.out W21 hb21).mono ?_); rintro e W22 ⟨rfl, q2, hq2⟩; have hb22 : Below W20.heap.size W20 W22 := (by rw [hq2]; exact hb21.trans ((below_drewN (Below.new _) _).mono hb21.size)); clear hq2; have l1 := HLa.out W22 ((HALL.out W22 ((HX19.out.2.2.trans (H20.out.1.mono HX19.out.2.2.size)).trans (hb22.mono (HX19.out.2.2.trans (H20.out.1.mono HX19.out.2.2.size)).size))).2.1))
    | (go_at_call 23; rw [HZIP.out]; (with_reducible refine (HSM3.out W22 hb22).mono ?_); rintro e W23 ⟨rfl, q3, hq3⟩; have hb23 : Below W20.heap.size W20 W23 := (by rw [hq3]; exact hb22.trans ((below_drewN (((Below.new _).trans ((Below.new _).mono (by simp)))) _).mono hb22.size)); clear hq3))
  all_goals first
    | exact (kd_no HKD.out h).elim
    | (rw [← HSS.out]; exact ⟨rfl, ((HALL.out W19 HX19.out.2.2).1.trans (H20.out.1.mono (HALL.out W19 HX19.out.2.2).1.size)).trans (hb23.mono ((HALL.out W19 HX19.out.2.2).1.trans (H20.out.1.mono (HALL.out W19 HX19.out.2.2).1.size)).size)⟩)
end Go.Proofs.YtdeccekeknlnoaaGreatDoor
