/- Chapter 38: package directory: normal of an empty part and of one fact; of an empty part. | Chapter 38: package directory: normal of an empty part; Add. | Chapter 38: package directory: find, listed, Revoked, Bad: over a directory of at most one fact. -/
import Derived.Test.YtdeccekeknlnoaaGreatDoorJDiA
import Derived.Test.YtdeccekeknlnoaaGreatDoorJPoEv
namespace Go.Proofs.YtdeccekeknlnoaaGreatDoor
open Go.RowKit
set_option maxRecDepth 100000 in
set_option maxHeartbeats 4000000 in
theorem di_normal2 (k : Nat) (hk : k = 3 ∨ k = 4) (d : List Nat) (hd : d.length = 16) (hb : ∀ x ∈ d, x < 256) (pb pc fb fcap : Nat) (w : World) (hp0 : w.cell? ⟨pb, 0, none⟩ = some (.slice none 0 0)) (hp : w.cell? ⟨pb, 1, none⟩ = some (.slice (some ⟨fb, 0, none⟩) 1 fcap)) (hr : w.rangeAt fb 0 (factC k d).toList) (hlt : fb < w.heap.size) :
    Calls Tryz.prog 35 #[.slice (some ⟨pb, 0, none⟩) 2 pc] w (DirSays k d w) := by
  obtain ⟨F, NF, E, NE, L⟩ := letF
  obtain ⟨S, hS⟩ : ∃ S, DirSays k d w = S := ⟨_, rfl⟩
  rw [hS]
  have HSS := Lib.hid hS
  have HK := Lib.hid (And.intro hk (And.intro hd hb))
  have hsz : (factC k d).size = 22 := factC_size hd
  have HLD := Lib.hid (show ∀ W' b, W'.rangeAt b 0 (factC k d).toList → Sem.run Tryz.prog (loadCellsFrom ⟨b, 0, none⟩ 0 NF #[]) W' = .ok (factC k d) W' from fun W' b h => by
    have := ld_mid (N := NF) (n := 22) L.szF h (by simpa using hsz)
    simpa using this)
  have HST := Lib.hid (show ∀ W : World, Sem.run Tryz.prog (storeCells ⟨W.heap.size, 0, none⟩ (factC k d).toList) (W.alloc (.cells #[.int .i64 0, .string ⟨#[]⟩, .int .i64 0, .int .i64 0, .int .i64 0, .slice none 0 0, .int .u8 0, .int .u8 0, .int .u8 0, .int .u8 0, .int .u8 0, .int .u8 0, .int .u8 0, .int .u8 0, .int .u8 0, .int .u8 0, .int .u8 0, .int .u8 0, .int .u8 0, .int .u8 0, .int .u8 0, .int .u8 0] 68)) = .ok () (W.alloc (.cells (factC k d) 68)) from fun W => st_new (by rw [hsz]; rfl) (factC_one k d))
  have HP := Lib.hid (And.intro hp (And.intro hr hlt))
  have laF : ∀ w, Sem.run Tryz.prog (isAgg F) w = .ok true w := fun w => by rw [L.tyF]; exact Tryz.isAgg68 w
  have lzF : ∀ w, Sem.run Tryz.prog (sizeOf F) w = .ok NF w := fun w => by rw [L.tyF, L.szF]; exact Tryz.sizeOf68 w
  have laE : ∀ w, Sem.run Tryz.prog (isAgg E) w = .ok true w := fun w => by rw [L.tyE]; exact Tryz.isAgg133 w
  have lzE : ∀ w, Sem.run Tryz.prog (sizeOf E) w = .ok NE w := fun w => by rw [L.tyE, L.szE]; exact Tryz.sizeOf133 w
  have o1 : ∀ x, Op.load 68 x = Op.load F x := fun x => by rw [L.tyF]
  have o2 : ∀ x y, Op.store 68 x y = Op.store F x y := fun x y => by rw [L.tyF]
  have o3 : ∀ x, Op.load 133 x = Op.load E x := fun x => by rw [L.tyE]
  have o4 : ∀ x y, Op.store 133 x y = Op.store E x y := fun x y => by rw [L.tyE]
  have o5 : ∀ ps, Op.build 133 ps = Op.build E ps := fun ps => by rw [L.tyE]
  have HLET := Lib.hid L
  have w1s : (w.alloc (.cells #[.slice none 0 0] 24)).heap.size = w.heap.size + 1 := by simp
  have hl1 := HLD.out (w.alloc (.cells #[.slice none 0 0] 24)) fb (fun j u hu => al_cell _ (hr j u hu))
  have hp1 := al_cell (.cells #[.slice none 0 0] 24) hp
  have hp01 := al_cell (.cells #[.slice none 0 0] 24) hp0
  have hs1 := HST.out (w.alloc (.cells #[.slice none 0 0] 24))
  rw [w1s] at hs1
  obtain ⟨fc, hfc⟩ : ∃ fc, factC k d = fc := ⟨_, rfl⟩
  rw [hfc] at hl1 hs1
  have HFC := Lib.hid hfc
  have hfs : fc.size = NF := by rw [← hfc, hsz, L.szF]
  clear L w1s hk hd hb hp hr hlt hsz hS hfc
  go_enter Tryz.func35, Tryz.ntmps35
  simp only [o1, o2, o3, o4, o5]
  clear o1 o2 o3 o4 o5
  go_wp2_with fail
  refine wp_loop_rounds 3 ?_
  rw [rounds_succ]
  go_wp2_with fail
  refine wp_loop_rounds 1 ?_
  rw [rounds_succ]
  go_wp2_with fail
  rw [rounds_succ]
  go_wp2_with fail
  refine wp_loop_rounds 2 ?_
  rw [rounds_succ]
  obtain ⟨W2, hW2⟩ : ∃ W2, (w.alloc (.cells #[.slice none 0 0] 24)).alloc (.cells fc 68) = W2 := ⟨_, rfl⟩
  have e2 := heap_alloc_new (w.alloc (.cells #[.slice none 0 0] 24)) (.cells fc 68)
  have b2 : Below w.heap.size w ((w.alloc (.cells #[.slice none 0 0] 24)).alloc (.cells fc 68)) := ((Below.refl _ _).alloc (Nat.le_refl _) _).alloc (by simp) _
  have r2 : ((w.alloc (.cells #[.slice none 0 0] 24)).alloc (.cells fc 68)).heap[w.heap.size]? = some (.cells #[.slice none 0 0] 24 (0, 0)) := (Below.heap_alloc _ _ _ (by simp)).trans (heap_alloc_new _ _)
  rw [World.size_alloc] at e2
  rw [hW2] at e2 b2 r2
  have hlt2 := lt_of_block e2
  have HLT2 := Lib.hid hlt2
  have HFS := Lib.hid (hfs.trans HLET.out.szF)
  have HTB := Lib.hid (show ∀ W', Un W2 W' → W'.heap[w.heap.size + 1]? = some (.cells (factC k d) 68 (0, 0)) from fun W' h => by rw [HFC.out]; exact (Below.block h _ hlt2).trans e2)
  have HRB := Lib.hid (show ∀ W', Un W2 W' → W'.heap[w.heap.size]? = some (.cells #[.slice none 0 0] 24 (0, 0)) from fun W' h => (Below.block h _ (by omega)).trans r2)
  have HLX := Lib.hid (show ∀ W', Un W2 W' → Sem.run Tryz.prog (loadCellsFrom ⟨w.heap.size + 1, 0, none⟩ 0 NF #[]) W' = .ok fc W' from fun W' h => by
    have := HLD.out W' (w.heap.size + 1) (range_block (HTB.out W' h))
    rwa [HFC.out] at this)
  have hl2 := HLX.out W2 (un_refl _)
  have HB2 := Lib.hid b2
  clear e2 b2 r2 hlt2
  have HVA := Lib.hid (di_valid k HK.out.1 d HK.out.2.1 W2)
  have HEN := Lib.hid (fun W' => di_encode k HK.out.1 d HK.out.2.1 HK.out.2.2 W')
  have hbe := fun (s : ByteArray) (w : World) => build_entry k HK.out.2.1 s w
  have hbs := fun (s : ByteArray) (w : World) => build_entries k HK.out.2.1 s w
  rw [HFC.out] at HVA HEN hbe hbs
  rw [← HLET.out.tyE] at hbe
  go_wp2_with fail
  refine HVA.out.mono ?_
  rintro e W3 ⟨rfl, hb3⟩
  have hu3 : Un W2 W3 := un_step (un_refl _) hb3
  have hl3 := HLX.out W3 hu3
  clear hl2 hb3
  obtain ⟨ze, hie, hzz⟩ := info_entry
  obtain ⟨i0, hi, hz0, hz1, hz2⟩ := info_parts hie
  have HI := Lib.hid (And.intro hi (And.intro hz0 (And.intro hz1 (And.intro hz2 hzz))))
  clear hie hi hz0 hz1 hz2 hzz
  go_upto_region 9 with fail
  have HU3 := Lib.hid hu3
  clear hu3
  -- BEGIN9
  refine wp_region_noPanic ?_
  refine wp_region_held_drew (S := (fun w' => Un W3 w' ∧ Sem.run Tryz.prog (loadCellsFrom ⟨w.heap.size + 1, 0, none⟩ 0 NF #[]) w' = .ok fc w')) (by kernel_rfl) ⟨un_drew _, HLX.out _ (un_step HU3.out (un_drew _))⟩ (fun hHeld => ?_)
  refine wpAnyH_take (i := 0) (oi := { dst := some 25, op := Op.move (Operand.tmp 3), type := 130, pos := "directory.go:63", after := #[], guard := none }) (v := ?_) rfl (by kernel_rfl) (by kernel_rfl) (by kernel_rfl) (fun _ _ _ h => h) (Or.inl ⟨by rfl, ?_⟩) (by assumption) ?_
  rotate_left
  · intro w hSw
    (try dsimp only at hSw)
    go_split_ands
    go_simp
    try with_reducible rfl
  try simp only [Act.put, List.setIfInBounds_toArray, List.set_cons_zero, List.set_cons_succ]
  refine wpAnyH_take (i := 1) (oi := { dst := some 26, op := Op.load F (Operand.tmp 7), type := 68, pos := "directory.go:63", after := #[], guard := none }) (v := ?_) rfl (by kernel_rfl) (by kernel_rfl) (by kernel_rfl) (fun _ _ _ h => h) (Or.inl ⟨by rfl, ?_⟩) (by assumption) ?_
  rotate_left
  · intro w hSw
    (try dsimp only at hSw)
    go_split_ands
    go_simp
    try with_reducible rfl
  try simp only [Act.put, List.setIfInBounds_toArray, List.set_cons_zero, List.set_cons_succ]
  refine wpAnyH_take (i := 2) (oi := { dst := some 27, op := Op.load F (Operand.tmp 7), type := 68, pos := "directory.go:63", after := #[], guard := none }) (v := ?_) rfl (by kernel_rfl) (by kernel_rfl) (by kernel_rfl) (fun _ _ _ h => h) (Or.inl ⟨by rfl, ?_⟩) (by assumption) ?_
  rotate_left
  · intro w hSw
    (try dsimp only at hSw)
    go_split_ands
    go_simp
    try with_reducible rfl
  try simp only [Act.put, List.setIfInBounds_toArray, List.set_cons_zero, List.set_cons_succ]
  refine wpAnyH_ready (rs := [3]) (by kernel_rfl) (by simp) ?_
  refine AllReadyH.cons (o := { dst := some 28, op := Op.call { callee := Callee.value (Operand.func 61), args := #[Operand.tmp 27], argTypes := #[68] }, type := 9, pos := "directory.go:63", after := #[{ on := 2, ground := Ground.data }], guard := none }) rfl (fun K hK => ?_) AllReadyH.nil
  go_simp
  refine (HEN.out _).mono ?_
  rintro e W4 ⟨s, rfl, hbE⟩
  go_wp2_with fail
  have hu4 : Un W3 W4 := un_step (un_drew _) hbE
  refine hK.out _ _ ⟨hu4, HLX.out _ (un_step HU3.out hu4)⟩ (fun hHeld => ?_)
  clear hK K hHeld hbE
  try simp only [Act.put, List.setIfInBounds_toArray, List.set_cons_zero, List.set_cons_succ]
  refine wpAnyH_ready (rs := [4]) (by kernel_rfl) (by simp) ?_
  refine AllReadyH.cons (o := { dst := some 29, op := Op.build E #[(0, Operand.tmp 26), (1, Operand.tmp 28)], type := 133, pos := "directory.go:63", after := #[{ on := 1, ground := Ground.data }, { on := 3, ground := Ground.data }], guard := none }) rfl (fun K hK => ?_) AllReadyH.nil
  refine step_val rfl (exec_build2 rfl rfl rfl (hbe s W4)) ?_
  refine hK.out _ _ ⟨hu4, HLX.out _ (un_step HU3.out hu4)⟩ (fun hHeld => ?_)
  clear hK K hHeld
  try simp only [Act.put, List.setIfInBounds_toArray, List.set_cons_zero, List.set_cons_succ]
  refine wpAnyH_ready (rs := [5]) (by kernel_rfl) (by simp) ?_
  refine AllReadyH.cons (o := { dst := some 30, op := Op.buildSlice 130 1 #[(0, Operand.tmp 29)], type := 130, pos := "directory.go:63", after := #[{ on := 4, ground := Ground.data }], guard := none }) rfl (fun K hK => ?_) AllReadyH.nil
  refine step_val rfl (exec_slice1 rfl rfl (hbs s W4)) ?_
  have hu5 : Un W3 (W4.alloc (.cells (fc.push (.string s)) 133)) := un_alloc hu4 _
  refine hK.out _ _ ⟨hu5, HLX.out _ (un_step HU3.out hu5)⟩ (fun hHeld => ?_)
  clear hK K hHeld
  try simp only [Act.put, List.setIfInBounds_toArray, List.set_cons_zero, List.set_cons_succ]
  obtain ⟨hi, hz0, hz1, hz2, hzz⟩ := HI.out
  have hsz23 : (fc.push (.string s)).toList.length = 1 * 23 := by simp [HFS.out]
  have hone : ∀ u ∈ (fc.push (.string s)).toList, u.oneCell' = true := by
    have h := factC_one k d
    rw [HFC.out] at h
    intro u hu
    simp only [Array.toList_push, List.mem_append, List.mem_singleton] at hu
    rcases hu with hu | rfl
    · exact Array.all_eq_true_iff_forall_mem.1 h u (by simpa using hu)
    · rfl
  have hbase : w.heap.size + 2 ≤ (W4.alloc (.cells (fc.push (.string s)) 133)).heap.size := by
    have := hu5.size
    have := HU3.out.size
    have := HLT2.out
    omega
  refine wpAnyH_ready (rs := [6]) (by kernel_rfl) (by simp) ?_
  refine AllReadyH.cons (o := { dst := some 31, op := Op.call { callee := Callee.builtin Builtin.append, args := #[Operand.tmp 25, Operand.tmp 30], argTypes := #[130, 130] }, type := 130, pos := "directory.go:63", after := #[{ on := 0, ground := Ground.data }, { on := 5, ground := Ground.data }, { on := 3, ground := Ground.chain }], guard := none }) rfl (fun K hK => ?_) AllReadyH.nil
  refine step_append_lies _ rfl (.tmp 25) (.tmp 30) 130 rfl (w.heap.size + 2) 133 i0 _ 23 104 Tryz.underlying130 hi hz0 hz1 hz2 hzz (by decide) (.slice none 0 0) 0 [] rfl (World.ownsRow_nil _ _ _ _) ⟨W4.heap.size, 0, none⟩ 1 1 (fc.push (.string s)).toList rfl hsz23 (World.news_of_block (heap_alloc_new _ _)) hone (by decide) (by decide) (by decide) hbase (W4.heap.size + 1) (by simp) ?_
  intro g cap W6 hown hgr hat hlt6
  have hu6 : Un W3 W6 := un_step hu5 (by simpa using grown_none hgr)
  refine hK.out _ _ ⟨hu6, HLX.out _ (un_step HU3.out hu6)⟩ (fun hHeld => ?_)
  clear hK K hHeld
  try simp only [Act.put, List.setIfInBounds_toArray, List.set_cons_zero, List.set_cons_succ]
  refine wpAnyH_ready (rs := [7]) (by kernel_rfl) (by simp) ?_
  refine AllReadyH.cons (o := { dst := some 3, op := Op.assign (Operand.tmp 31), type := 130, pos := "directory.go:63", after := #[{ on := 6, ground := Ground.data }, { on := 6, ground := Ground.chain }, { on := 0, ground := Ground.phase }, { on := 1, ground := Ground.phase }, { on := 2, ground := Ground.phase }, { on := 3, ground := Ground.phase }, { on := 4, ground := Ground.phase }, { on := 5, ground := Ground.phase }, { on := 6, ground := Ground.phase }], guard := none }) rfl (fun K hK => ?_) AllReadyH.nil
  go_simp
  refine hK.out _ _ ⟨hu6, HLX.out _ (un_step HU3.out hu6)⟩ (fun hHeld => ?_)
  clear hK K hHeld
  try simp only [Act.put, List.setIfInBounds_toArray, List.set_cons_zero, List.set_cons_succ]
  refine wpAnyH_done (by kernel_rfl) ?_ _
  refine NoPanic.normal ?_
  have hR6 : W6.rangeAt g 0 (fc.push (.string s)).toList := own_range hown
  have HU6 := Lib.hid hu6
  have HR6 := Lib.hid hR6
  have HH6 := Lib.hid (And.intro hat hlt6)
  clear hu6 hR6 hat hlt6 hown hgr hu5 hu4 hbase hone hsz23 hi hz0 hz1 hz2 hzz
  go_wp2_with fail
  rw [rounds_succ]
  go_wp2_with fail
  rw [rounds_succ]
  have w7s : (W6.alloc (.cells #[.slice none 0 0] 24)).heap.size = W6.heap.size + 1 := by simp
  have hl7 : Sem.run Tryz.prog (loadCellsFrom ⟨g, 0, none⟩ 0 NE #[]) (W6.alloc (.cells #[.slice none 0 0] 24)) = .ok (fc.push (.string s)) (W6.alloc (.cells #[.slice none 0 0] 24)) := by
    have h0 : (W6.alloc (.cells #[.slice none 0 0] 24)).rangeAt g 0 (fc.push (.string s)).toList := fun j u hu => al_cell _ (HR6.out j u hu)
    have := ld_mid (N := NE) (n := 23) HLET.out.szE h0 (by simp [HFS.out])
    rwa [Array.toArray_toList] at this
  have hs7 := st_new (w := W6.alloc (.cells #[.slice none 0 0] 24)) (cs := fc.push (.string s)) (z := #[.int .i64 0, .string ⟨#[]⟩, .int .i64 0, .int .i64 0, .int .i64 0, .slice none 0 0, .int .u8 0, .int .u8 0, .int .u8 0, .int .u8 0, .int .u8 0, .int .u8 0, .int .u8 0, .int .u8 0, .int .u8 0, .int .u8 0, .int .u8 0, .int .u8 0, .int .u8 0, .int .u8 0, .int .u8 0, .int .u8 0, .string ⟨#[]⟩]) (t := 133) (by simp [HFS.out]) (by
    have h := factC_one k d
    rw [HFC.out] at h
    rw [Array.all_push, h]
    rfl)
  rw [w7s, Array.toList_push] at hs7
  have hl8 : Sem.run Tryz.prog (loadCellsFrom ⟨W6.heap.size + 1, 0, none⟩ 0 NF #[]) ((W6.alloc (.cells #[.slice none 0 0] 24)).alloc (.cells (fc.push (.string s)) 133)) = .ok fc ((W6.alloc (.cells #[.slice none 0 0] 24)).alloc (.cells (fc.push (.string s)) 133)) := by
    have h0 := range_block (heap_alloc_new (W6.alloc (.cells #[.slice none 0 0] 24)) (.cells (fc.push (.string s)) 133))
    rw [w7s] at h0
    have := HLD.out _ _ (fun j u hu => h0 j u (by
      rw [HFC.out] at hu
      rw [Array.toList_push, List.getElem?_append_left (List.getElem?_eq_some_iff.1 hu).1]
      exact hu))
    rwa [HFC.out] at this
  have hes : (fc.push (.string s)).size = NE := by simp [HFS.out, HLET.out.szE]
  go_wp2_with (first | ((go_at_call 62; (with_reducible refine (di_sort _ _ _).mono ?_); rintro e w' ⟨rfl, rfl⟩)) | ((go_at_call 64; (with_reducible refine (di_compact _ _ _).mono ?_); rintro e w' ⟨rfl, rfl⟩)))
  refine wp_loop_rounds 2 ?_
  rw [rounds_succ]
  go_upto_region 17 with fail
  refine wp_region_list ?_
  obtain ⟨W8, hW8⟩ : ∃ X, ((w'.alloc (.cells #[.slice none 0 0] 24)).alloc (.cells (fc.push (.string s)) 133)) = X := ⟨_, rfl⟩
  have hd8 : W8.heap[w'.heap.size]? = some (.cells #[.slice none 0 0] 24 (0, 0)) := by
    rw [← hW8]
    exact (Below.heap_alloc _ _ _ (by simp)).trans (heap_alloc_new _ _)
  have hu8 : Un w' W8 := by
    rw [← hW8]
    exact un_alloc (un_alloc (un_refl _) _) _
  have hz8 : W8.heap.size = w'.heap.size + 2 := by rw [← hW8]; simp
  rw [hW8] at hl8 ⊢
  clear hs7 hl7 hW8
  obtain ⟨hc8, hf8⟩ := one_cell hd8
  refine wpList_step (fun K hK => ?_)
  go_simp
  refine hK _ _ ?_
  clear hK K
  try simp only [Act.put, List.setIfInBounds_toArray, List.set_cons_zero, List.set_cons_succ]
  refine wpList_step (fun K hK => ?_)
  go_simp
  refine hK _ _ ?_
  clear hK K
  try simp only [Act.put, List.setIfInBounds_toArray, List.set_cons_zero, List.set_cons_succ]
  refine wpList_step (fun K hK => ?_)
  go_simp
  refine hK _ _ ?_
  clear hK K
  try simp only [Act.put, List.setIfInBounds_toArray, List.set_cons_zero, List.set_cons_succ]
  refine wpList_step (fun K hK => ?_)
  go_simp
  refine hK _ _ ?_
  clear hK K
  try simp only [Act.put, List.setIfInBounds_toArray, List.set_cons_zero, List.set_cons_succ]
  refine wpList_step (fun K hK => ?_)
  have hbf := build_facts k HK.out.2.1 W8
  rw [HFC.out] at hbf
  refine step_val rfl (exec_slice1 rfl rfl hbf) ?_
  refine hK _ _ ?_
  clear hK K hbf
  try simp only [Act.put, List.setIfInBounds_toArray, List.set_cons_zero, List.set_cons_succ]
  refine wpList_step (fun K hK => ?_)
  obtain ⟨zf, hif, hzf⟩ := info_fact
  obtain ⟨i1, hi1, hy0, hy1, hy2⟩ := info_parts hif
  have hone1 : ∀ u ∈ fc.toList, u.oneCell' = true := by
    have h := factC_one k d
    rw [HFC.out] at h
    intro u hu
    exact Array.all_eq_true_iff_forall_mem.1 h u (by simpa using hu)
  refine step_append_lies _ rfl (.tmp 44) (.tmp 47) 22 rfl (w'.heap.size + 2) 68 i1 _ 22 88 Tryz.underlying22 hi1 hy0 hy1 hy2 hzf (by decide) (.slice none 0 0) 0 [] rfl (World.ownsRow_nil _ _ _ _) ⟨W8.heap.size, 0, none⟩ 1 1 fc.toList rfl (by simp [HFS.out]) (World.news_of_block (heap_alloc_new _ _)) hone1 (by decide) (by decide) (by decide) (by simp; omega) (W8.heap.size + 1) (by simp) ?_
  intro g2 cap2 W10 hown2 hgr2 hat2 hlt10
  simp only [Nat.zero_add, List.nil_append] at hown2 ⊢
  have hge : g2 = W8.heap.size + 1 := by
    rcases hat2 with h | h
    · cases h
    · exact h
  have HGE := Lib.hid hge
  clear hge
  have hb10 := grown_none hgr2
  have hd10 : W10.heap[w'.heap.size]? = some (.cells #[.slice none 0 0] 24 (0, 0)) := (hb10.block _ (by simp; omega)).trans ((Below.heap_alloc _ _ _ (by omega)).trans hd8)
  have hu10 : Un w' W10 := un_step (un_alloc hu8 _) hb10
  have hR10 := own_range hown2
  obtain ⟨hc10, hf10⟩ := one_cell hd10
  clear hc8 hf8 hd8
  refine hK _ _ ?_
  clear hK K
  try simp only [Act.put, List.setIfInBounds_toArray, List.set_cons_zero, List.set_cons_succ]
  refine wpList_step (fun K hK => ?_)
  go_simp
  refine hK _ _ ?_
  clear hK K
  try simp only [Act.put, List.setIfInBounds_toArray, List.set_cons_zero, List.set_cons_succ]
  refine wpList_step (fun K hK => ?_)
  go_simp
  refine hK _ _ ?_
  clear hK K
  try simp only [Act.put, List.setIfInBounds_toArray, List.set_cons_zero, List.set_cons_succ]
  refine wpList_nil ?_
  obtain ⟨W11, hW11⟩ : ∃ X, W10.setCell ⟨w'.heap.size, 0, none⟩ (.slice (some ⟨g2, 0, none⟩) 1 cap2) = X := ⟨_, rfl⟩
  rw [hW11]
  have hd11 : W11.heap[w'.heap.size]? = some (.cells #[.slice (some ⟨g2, 0, none⟩) 1 cap2] 24 (0, 0)) := by
    rw [← hW11]
    simp only [World.setCell, Array.getElem?_modify, hd10]
    simp
  have hu11 : Un w' W11 := by
    rw [← hW11]
    exact Below.setCell hu10 (Nat.le_refl _) _
  have hR11 : W11.rangeAt g2 0 fc.toList := by
    intro j u hu
    rw [← hW11]
    exact (World.cell?_of_block (by
      rw [set_other _ _ _ _ _ (show g2 ≠ w'.heap.size by have := HGE.out; omega)])).trans (hR10 j u hu)
  have hs11 : W11.heap.size = W10.heap.size := by rw [← hW11]; simp [World.setCell]
  have hU2 : Un W2 W11 := un_step (un_step HU3.out HU6.out) hu11
  have hr11 := HRB.out W11 hU2
  have HR11 := Lib.hid hr11
  obtain ⟨hc11, hf11⟩ := one_cell hd11
  obtain ⟨hcr, hfr⟩ := one_cell hr11
  have hbase : Below w.heap.size w W11 := (HB2.out).trans (hU2.mono HB2.out.size)
  have HF := Lib.hid (And.intro hR11 (And.intro hbase (And.intro hs11 (And.intro hlt10 (And.intro HGE.out hz8)))))
  clear hc10 hf10 hd10 hW11 hown2 hgr2 hR10 hR11 hb10 hu10 hu11 hU2 hr11 hd11 hbase hs11 hlt10 hz8 hat2 hi1 hy0 hy1 hy2 hzf hone1 hif hl8 hes hu8 w7s hl3
  go_wp2_with fail
  rw [rounds_succ]
  go_wp2_with fail
  obtain ⟨h1, h2, h3, h4, h5, h6⟩ := HF.out
  refine bodyPost_ret (v := .agg #[.slice (some ⟨g2, 0, none⟩) 1 cap2]) (results_row Tryz.underlying24 rfl (n := 1) (by kernel_rfl) Tryz.results35 (r := w.heap.size) rfl (heap_set HR11.out 0 _) rfl) rfl ?_
  rw [← HSS.out]
  have hsz2 := HU3.out.size
  have hsz6 := HU6.out.size
  have hl2 := HLT2.out
  refine ⟨_, rfl, ⟨g2, cap2, rfl, ?_, ?_⟩, ?_⟩
  · simp [World.setCell]; omega
  · intro j u hu
    rw [HFC.out] at hu
    have hge := h5
    exact (World.cell?_of_block (by
      have hs3 : w.heap.size + 2 ≤ W3.heap.size := by omega
      rw [set_other _ _ _ _ _ (show g2 ≠ w.heap.size by omega)])).trans (h1 j u hu)
  · exact Below.setCell h2 (Nat.le_refl _) _
end Go.Proofs.YtdeccekeknlnoaaGreatDoor

namespace Go.Proofs.YtdeccekeknlnoaaGreatDoor
open Go.RowKit
theorem results_row_tmp {T : TypeId} {d : TypeDesc} (hu : Tryz.prog.underlying T = some d) (hr : d.isRow = true) {n : Nat} (hn : (Tryz.prog.info? T).map (·.size) = some n) {fn : Func} {t u : Tmp} (h : fn.results = #[.cell t T, .tmp u]) {tmps : Array Value} {r : Nat} (ht : tmps[t]?.getD undef = .pointer (some ⟨r, 0, none⟩)) {x : Value} (hx : tmps[u]?.getD undef = x) {w : World} {cs : Array Value} (hc : w.heap[r]? = some (.cells cs T (0, 0))) (hs : cs.size = n) :
    (results fn tmps).run Tryz.prog w = .ok (.tuple #[.agg cs, x]) w := by
  simp [results, h, ht, hx, asAddr, loadVar_row hu hr hn hc hs]
set_option maxRecDepth 100000 in
set_option maxHeartbeats 1000000 in
theorem di_sort0 (w : World) :
    Calls Tryz.prog 62 #[.slice none 0 0, .func (.func 63) #[] #[]] w fun e w' => e = .returned (.tuple #[]) ∧ w' = w := by
  go_enter Tryz.func62, Tryz.ntmps62
  go_wp2
  refine wp_loop_rounds 1 ?_
  rw [rounds_succ]
  go_wp2
  refine wp_loop_rounds 1 ?_
  rw [rounds_succ]
  go_wp2
  refine wp_loop_rounds 1 ?_
  rw [rounds_succ]
  go_wp2
  go_end0
  exact ⟨rfl, rfl⟩
set_option maxRecDepth 100000 in
set_option maxHeartbeats 1000000 in
theorem di_compact0 (w : World) :
    Calls Tryz.prog 64 #[.slice none 0 0, .func (.func 65) #[] #[]] w fun e w' => e = .returned (.slice none 0 0) ∧ w' = w := by
  go_enter Tryz.func64, Tryz.ntmps64
  go_wp2
  go_ret
  exact ⟨rfl, rfl⟩
set_option maxRecDepth 100000 in
set_option maxHeartbeats 4000000 in
theorem di_normal0 (pb pc : Nat) (w : World) (hp : w.cell? ⟨pb, 0, none⟩ = some (.slice none 0 0)) :
    Calls Tryz.prog 35 #[.slice (some ⟨pb, 0, none⟩) 1 pc] w fun e w' => e = .returned (.agg #[.slice none 0 0]) ∧ Below w.heap.size w w' := by
  obtain ⟨S, hS⟩ : ∃ S : Ending → World → Prop, (fun e w' => e = .returned (.agg #[.slice none 0 0]) ∧ Below w.heap.size w w') = S := ⟨_, rfl⟩
  rw [hS]
  have HSS := Lib.hid hS
  have hp1 := al_cell (.cells #[.slice none 0 0] 24) hp
  clear hS hp
  go_enter Tryz.func35, Tryz.ntmps35
  go_wp2_with fail
  refine wp_loop_rounds 2 ?_
  rw [rounds_succ]
  go_wp2_with fail
  refine wp_loop_rounds 1 ?_
  rw [rounds_succ]
  go_wp2_with fail
  rw [rounds_succ]
  go_wp2_with (first | ((go_at_call 62; (with_reducible refine (di_sort0 _).mono ?_); rintro e w' ⟨rfl, rfl⟩)) | ((go_at_call 64; (with_reducible refine (di_compact0 _).mono ?_); rintro e w' ⟨rfl, rfl⟩)))
  refine wp_loop_rounds 1 ?_
  rw [rounds_succ]
  go_wp2_with fail
  refine bodyPost_ret (v := .agg #[.slice none 0 0]) (results_row Tryz.underlying24 rfl (n := 1) (by kernel_rfl) Tryz.results35 (r := w.heap.size) rfl ((Below.heap_alloc _ _ _ (by simp)).trans (heap_alloc_new _ _)) rfl) rfl ?_
  rw [← HSS.out]
  exact ⟨rfl, ((Below.refl _ _).alloc (Nat.le_refl _) _).alloc (by simp) _⟩
/-- a directory of one fact, or the empty one -/
def AddSays2 (k : Nat) (d : List Nat) (w : World) (e : Ending) (w' : World) : Prop := ∃ v, e = .returned (.tuple #[.agg #[v], .int .i64 0]) ∧ FactAt w' v k d ∧ Below w.heap.size w w'
set_option maxRecDepth 100000 in
set_option maxHeartbeats 4000000 in
theorem di_add (k : Nat) (hk : k = 3 ∨ k = 4) (d : List Nat) (hd : d.length = 16) (hb : ∀ x ∈ d, x < 256) (w : World) :
    Calls Tryz.prog 20 #[.agg #[.slice none 0 0], .agg (factC k d)] w (AddSays2 k d w) := by
  obtain ⟨F, NF, E, NE, L⟩ := letF
  obtain ⟨S, hS⟩ : ∃ S, AddSays2 k d w = S := ⟨_, rfl⟩
  rw [hS]
  have HSS := Lib.hid hS
  have HK := Lib.hid (And.intro hk (And.intro hd hb))
  have hsz : (factC k d).size = 22 := factC_size hd
  obtain ⟨fc, hfc⟩ : ∃ fc, factC k d = fc := ⟨_, rfl⟩
  rw [hfc] at hsz ⊢
  have HFC := Lib.hid hfc
  have hfs : fc.size = NF := by rw [hsz, L.szF]
  have HFS := Lib.hid hsz
  have HLD := Lib.hid (show ∀ W' b, W'.rangeAt b 0 fc.toList → Sem.run Tryz.prog (loadCellsFrom ⟨b, 0, none⟩ 0 NF #[]) W' = .ok fc W' from fun W' b h => by
    have := ld_mid (N := NF) (n := 22) L.szF h (by simpa using hsz)
    rwa [Array.toArray_toList] at this)
  have laF : ∀ w, Sem.run Tryz.prog (isAgg F) w = .ok true w := fun w => by rw [L.tyF]; exact Tryz.isAgg68 w
  have lzF : ∀ w, Sem.run Tryz.prog (sizeOf F) w = .ok NF w := fun w => by rw [L.tyF, L.szF]; exact Tryz.sizeOf68 w
  have o1 : ∀ x, Op.load 68 x = Op.load F x := fun x => by rw [L.tyF]
  have w1s : (w.alloc (.cells #[.slice none 0 0] 24)).heap.size = w.heap.size + 1 := by simp
  clear hS hk hd hb hfc hsz
  have hl2 : Sem.run Tryz.prog (loadCellsFrom ⟨w.heap.size + 1, 0, none⟩ 0 NF #[]) (((w.alloc (.cells #[.slice none 0 0] 24)).alloc (.cells fc 68)).alloc (.cells #[.slice none 0 0] 24)) = .ok fc (((w.alloc (.cells #[.slice none 0 0] 24)).alloc (.cells fc 68)).alloc (.cells #[.slice none 0 0] 24)) := by
    have h0 := range_block (heap_alloc_new (w.alloc (.cells #[.slice none 0 0] 24)) (.cells fc 68))
    rw [w1s] at h0
    exact HLD.out _ _ (fun j u hu => al_cell _ (h0 j u hu))
  clear w1s
  go_enter Tryz.func20, Tryz.ntmps20
  simp only [o1]
  clear o1
  go_upto_region 1 with fail
  have HVA := Lib.hid (di_valid k HK.out.1 d HK.out.2.1 (((w.alloc (.cells #[.slice none 0 0] 24)).alloc (.cells fc 68)).alloc (.cells #[.slice none 0 0] 24)))
  rw [HFC.out] at HVA
  go_wp2_with fail
  refine HVA.out.mono ?_
  rintro e W3 ⟨rfl, hb3⟩
  obtain ⟨W2, hW2⟩ : ∃ X, (((w.alloc (.cells #[.slice none 0 0] 24)).alloc (.cells fc 68)).alloc (.cells #[.slice none 0 0] 24)) = X := ⟨_, rfl⟩
  have hz2 : W2.heap.size = w.heap.size + 3 := by rw [← hW2]; simp
  have hr0 : W2.heap[w.heap.size]? = some (.cells #[.slice none 0 0] 24 (0, 0)) := by
    rw [← hW2]
    exact (Below.heap_alloc _ _ _ (by simp; omega)).trans ((Below.heap_alloc _ _ _ (by simp)).trans (heap_alloc_new _ _))
  have hr1 : W2.heap[w.heap.size + 1]? = some (.cells fc 68 (0, 0)) := by
    rw [← hW2]
    refine (Below.heap_alloc _ _ _ (by simp)).trans ?_
    have := heap_alloc_new (w.alloc (.cells #[.slice none 0 0] 24)) (.cells fc 68)
    simpa using this
  have hr2 : W2.heap[w.heap.size + 2]? = some (.cells #[.slice none 0 0] 24 (0, 0)) := by
    rw [← hW2]
    have := heap_alloc_new ((w.alloc (.cells #[.slice none 0 0] 24)).alloc (.cells fc 68)) (.cells #[.slice none 0 0] 24)
    simpa using this
  have hb2 : Below w.heap.size w W2 := by
    rw [← hW2]
    exact ((((Below.refl _ _).alloc (Nat.le_refl _) _).alloc (by simp) _).alloc (by simp; omega) _)
  rw [hW2] at hb3
  clear hW2 hl2
  have g0 := (hb3.block _ (by omega)).trans hr0
  have g1 := (hb3.block _ (by omega)).trans hr1
  have g2 := (hb3.block _ (by omega)).trans hr2
  obtain ⟨c0, f0⟩ := one_cell g0
  obtain ⟨c2, f2⟩ := one_cell g2
  have hl3 := HLD.out W3 (w.heap.size + 1) (range_block g1)
  have hb3' : Below w.heap.size w W3 := hb2.trans (hb3.mono (by omega))
  have hz3 := hb3.size
  have HH := Lib.hid (And.intro hb3' (And.intro hz2 (And.intro hz3 (And.intro g0 (And.intro g1 g2)))))
  clear hb3' hz2 hz3 g0 g1 g2 hb2 hb3 hr0 hr1 hr2
  go_upto_region 3 with fail
  refine wp_region_list ?_
  refine wpList_step (fun K hK => ?_)
  go_simp
  refine hK _ _ ?_
  clear hK K
  try simp only [Act.put, List.setIfInBounds_toArray, List.set_cons_zero, List.set_cons_succ]
  refine wpList_step (fun K hK => ?_)
  go_simp
  refine hK _ _ ?_
  clear hK K
  try simp only [Act.put, List.setIfInBounds_toArray, List.set_cons_zero, List.set_cons_succ]
  refine wpList_step (fun K hK => ?_)
  go_simp
  refine hK _ _ ?_
  clear hK K
  try simp only [Act.put, List.setIfInBounds_toArray, List.set_cons_zero, List.set_cons_succ]
  refine wpList_step (fun K hK => ?_)
  have hbf := build_facts k HK.out.2.1 W3
  rw [HFC.out] at hbf
  refine step_val rfl (exec_slice1 rfl rfl hbf) ?_
  refine hK _ _ ?_
  clear hK K hbf
  try simp only [Act.put, List.setIfInBounds_toArray, List.set_cons_zero, List.set_cons_succ]
  refine wpList_step (fun K hK => ?_)
  go_simp
  refine hK _ _ ?_
  clear hK K
  try simp only [Act.put, List.setIfInBounds_toArray, List.set_cons_zero, List.set_cons_succ]
  obtain ⟨W4, hW4⟩ : ∃ X, ((W3.alloc (.cells fc 68)).alloc (.cells #[.slice none 0 0, .slice (some ⟨W3.heap.size, 0, none⟩) 1 1] 22)) = X := ⟨_, rfl⟩
  have hu4 : Un W3 W4 := by
    rw [← hW4]
    exact un_alloc (un_alloc (un_refl _) _) _
  have hz4 : W4.heap.size = W3.heap.size + 2 := by rw [← hW4]; simp
  have q0 : W4.heap[W3.heap.size + 1]? = some (.cells #[.slice none 0 0, .slice (some ⟨W3.heap.size, 0, none⟩) 1 1] 22 (0, 0)) := by
    rw [← hW4]
    have := heap_alloc_new (W3.alloc (.cells fc 68)) (.cells #[.slice none 0 0, .slice (some ⟨W3.heap.size, 0, none⟩) 1 1] 22)
    simpa using this
  have q1 : W4.rangeAt W3.heap.size 0 fc.toList := by
    rw [← hW4]
    exact fun j u hu => al_cell _ (range_block (heap_alloc_new W3 (.cells fc 68)) j u hu)
  obtain ⟨qa, qb, -⟩ := two_cells q0
  rw [hW4]
  have HN := Lib.hid (di_normal2 k HK.out.1 d HK.out.2.1 HK.out.2.2 (W3.heap.size + 1) 2 W3.heap.size 1 W4 qa qb (by rw [HFC.out]; exact q1) (by omega))
  clear qa qb q0 q1 hW4 hl3 c0 f0 c2 f2
  refine wpList_step (fun K hK => ?_)
  go_simp
  refine HN.out.mono ?_
  rintro e W5 ⟨v, rfl, hfa, hb5⟩
  obtain ⟨h1, h2, h3, h4, h5, h6⟩ := HH.out
  have hu5 : Un W3 W5 := un_step hu4 hb5
  have g2 := (hu5.block _ (by omega)).trans h6
  have hbw : Below w.heap.size w W5 := h1.trans (hu5.mono (by omega))
  obtain ⟨gg, cc, rfl, hg1, hg2⟩ := hfa
  have hgx : w.heap.size + 2 ≠ gg := by
    rintro rfl
    have := HFS.out
    have hcc := hg2 1 (.string ⟨#[]⟩) (by rfl)
    rw [Nat.zero_add, cell_of_row _ _ _ _ _ _ g2] at hcc
    cases hcc
  obtain ⟨c2, f2⟩ := one_cell g2
  have HG := Lib.hid (And.intro hbw (And.intro hg1 (And.intro hg2 (And.intro hgx g2))))
  clear hu4 hz4 hb5 h1 h2 h3 h4 h5 h6 hu5 g2 hbw hg1 hg2 hgx
  simp only []
  refine hK _ _ ?_
  clear hK K
  try simp only [Act.put, List.setIfInBounds_toArray, List.set_cons_zero, List.set_cons_succ]
  refine wpList_step (fun K hK => ?_)
  go_simp
  refine hK _ _ ?_
  clear hK K
  try simp only [Act.put, List.setIfInBounds_toArray, List.set_cons_zero, List.set_cons_succ]
  refine wpList_step (fun K hK => ?_)
  go_simp
  refine hK _ _ ?_
  clear hK K
  try simp only [Act.put, List.setIfInBounds_toArray, List.set_cons_zero, List.set_cons_succ]
  refine wpList_nil ?_
  have hc5 := heap_set HG.out.2.2.2.2 0 (.slice (some ⟨gg, 0, none⟩) 1 cc)
  go_wp2_with fail
  refine bodyPost_ret (v := .tuple #[.agg #[.slice (some ⟨gg, 0, none⟩) 1 cc], .int .i64 0]) ?_ rfl ?_
  · exact results_row_tmp Tryz.underlying24 rfl (n := 1) (by kernel_rfl) Tryz.results20 (r := w.heap.size + 2) rfl rfl hc5 rfl
  · rw [← HSS.out]
    obtain ⟨h1, h2, h3, h4, h5⟩ := HG.out
    refine ⟨_, rfl, ⟨gg, cc, rfl, by simpa [World.setCell] using h2, fun j u hu => ?_⟩, Below.setCell h1 (by simp; omega) _⟩
    exact (World.cell?_of_block (by rw [set_other _ _ _ _ _ (Ne.symm h4)])).trans (h3 j u hu)
end Go.Proofs.YtdeccekeknlnoaaGreatDoor

namespace Go.Proofs.YtdeccekeknlnoaaGreatDoor
open Go.RowKit
set_option maxRecDepth 100000 in
set_option maxHeartbeats 2000000 in
theorem di_is (k : Nat) (d q : List Nat) (hd : d.length = 16) (hq : q.length = 16) (b : Nat) (w : World) (hr : w.rangeAt b 0 (b8 q)) :
    Calls Tryz.prog 54 #[.agg (factC k d), .pointer (some ⟨b, 0, none⟩)] w fun e w' => e = .returned (.bool (d == q)) ∧ Below w.heap.size w w' := by
  obtain ⟨fc, hfc⟩ : ∃ fc, factC k d = fc := ⟨_, rfl⟩
  have e0 := heap_alloc_new w (.cells (factC k d) 68)
  have b0 := Below.new (w := w) (.cells (factC k d) 68)
  have hr1 : (w.alloc (.cells (factC k d) 68)).rangeAt b 0 (b8 q) := fun j u hu => al_cell _ (hr j u hu)
  rw [hfc] at e0 b0 hr1 ⊢
  rw [← hfc] at e0
  obtain ⟨c0, c1, c2, c3, c4, c5, c6, cf⟩ := fact_cells e0
  rw [hfc] at c0 c1 c2 c3 c4 c5 c6 cf
  obtain ⟨R, K, L⟩ := letD
  have hl1 := ld_mid L.sz c6 (by rw [b8_len, hd])
  have hl2 := ld_mid L.sz hr1 (by rw [b8_len, hq])
  have hE := fun w => run_dig hd hq w
  rw [← b8_dg, ← b8_dg] at hE
  have la : ∀ w, Sem.run Tryz.prog (isAgg R) w = .ok true w := fun w => by rw [L.ty]; exact Tryz.isAgg39 w
  have lz : ∀ w, Sem.run Tryz.prog (sizeOf R) w = .ok K w := fun w => by rw [L.ty, L.sz]; exact Tryz.sizeOf39 w
  have hG : ∀ w, Sem.run Tryz.prog (eqGuard BinOp.eql R (.tmp 5) (.tmp 6) (.agg (b8 d).toArray) (.agg (b8 q).toArray)) w = .ok () w := fun w => by
    obtain ⟨a0, a1, a2, a3, a4, a5, a6, a7, a8, a9, aa, ab, ac, ad, ae, af, rfl⟩ := list16 hd
    obtain ⟨z0, z1, z2, z3, z4, z5, z6, z7, z8, z9, za, zb, zc, zd, ze, zf, rfl⟩ := list16 hq
    rw [L.ty]; kernel_rfl
  rw [← L.ty] at hE
  have hlo : ∀ x, Op.load 39 x = Op.load R x := fun x => by rw [L.ty]
  have hop : ∀ a b, Op.binOp BinOp.eql 39 a b 39 = Op.binOp BinOp.eql R a b R := fun a b => by rw [L.ty]
  have HW := Lib.hid b0
  obtain ⟨bo, hbo⟩ : ∃ bo, (d == q) = bo := ⟨_, rfl⟩
  rw [hbo] at hE ⊢
  obtain ⟨v1, hv1⟩ : ∃ v, (b8 d).toArray = v := ⟨_, rfl⟩
  obtain ⟨v2, hv2⟩ : ∃ v, (b8 q).toArray = v := ⟨_, rfl⟩
  rw [hv1] at hl1 hE hG
  rw [hv2] at hl2 hE hG
  clear e0 b0 L hfc hr1 hr hd hq c6 hv1 hv2 hbo
  go_enter Tryz.func54, Tryz.ntmps54
  simp only [hlo, hop]
  clear hlo hop
  go_wp2_with fail
  go_ret
  exact ⟨rfl, HW.out⟩
set_option maxRecDepth 100000 in
set_option maxHeartbeats 2000000 in
theorem di_part (k : Nat) (d : List Nat) (w : World) :
    Calls Tryz.prog 55 #[.agg (factC k d)] w fun e w' => e = .returned (.bool true) ∧ Below w.heap.size w w' := by
  obtain ⟨fc, hfc⟩ : ∃ fc, factC k d = fc := ⟨_, rfl⟩
  rw [hfc]
  go_enter Tryz.func55, Tryz.ntmps55
  go_wp2_with fail
  go_ret
  exact ⟨rfl, Below.new _⟩
theorem fld_dir (v : Value) (w : World) : Sem.run Tryz.prog (Instr.field 24 (.agg #[v]) 0) w = .ok v w := by kernel_rfl
/-- a directory: empty, or of one fact -/
def Dir1 (w : World) (v : Value) (o : Option (Nat × List Nat)) : Prop :=
  match o with
  | none => v = .slice none 0 0
  | some (k, d) => FactAt w v k d ∧ (k = 3 ∨ k = 4) ∧ d.length = 16 ∧ ∀ x ∈ d, x < 256
def Dir1.lists (o : Option (Nat × List Nat)) (k : Nat) (q : List Nat) : Bool :=
  match o with
  | none => false
  | some (k', d) => k' == k && d == q
set_option maxRecDepth 100000 in
set_option maxHeartbeats 4000000 in
theorem di_find0 (k : Nat) (f g : Value) (w : World) :
    Calls Tryz.prog 53 #[.agg #[.slice none 0 0], .int .i64 k, f, g] w fun e w' => e = .returned (.tuple #[.bool false, .bool false]) ∧ Below w.heap.size w w' := by
  obtain ⟨S, hS⟩ : ∃ S : Ending → World → Prop, (fun e w' => e = .returned (.tuple #[.bool false, .bool false]) ∧ Below w.heap.size w w') = S := ⟨_, rfl⟩
  rw [hS]
  have HSS := Lib.hid hS
  clear hS
  have hfld := fun w => fld_dir (.slice none 0 0) w
  go_enter Tryz.func53, Tryz.ntmps53
  have HN := Lib.hid (di_normal0 (w.heap.size + 1) 1 ((w.alloc (.cells #[.slice none 0 0] 24)).alloc (.cells #[.slice none 0 0] 22)) (by
    have := heap_alloc_new (w.alloc (.cells #[.slice none 0 0] 24)) (.cells #[.slice none 0 0] 22)
    rw [World.size_alloc] at this
    exact (one_cell this).1))
  go_wp2_with (go_at_call 35; refine HN.out.mono ?_; rintro e W ⟨rfl, hb⟩)
  refine wp_loop_rounds 1 ?_
  rw [rounds_succ]
  go_wp2_with fail
  rw [← HSS.out]
  exact ⟨rfl, (((Below.refl _ _).alloc (Nat.le_refl _) _).alloc (by simp) _).trans (hb.mono (by simp; omega))⟩
set_option maxRecDepth 100000 in
set_option maxHeartbeats 4000000 in
theorem di_find1 (k : Nat) (q : List Nat) (hq : q.length = 16) (b : Nat) (k' : Nat) (hk : k' = 3 ∨ k' = 4) (d : List Nat) (hd : d.length = 16) (hb : ∀ x ∈ d, x < 256) (hkk : k ≤ 4) (v : Value) (w : World) (hlt : b < w.heap.size) (hr : w.rangeAt b 0 (b8 q)) (hv : FactAt w v k' d) :
    Calls Tryz.prog 53 #[.agg #[v], .int .i64 k, .func (.func 54) #[] #[.pointer (some ⟨b, 0, none⟩)], .func (.func 55) #[] #[]] w fun e w' => e = .returned (.tuple #[.bool (k' == k && d == q), .bool (k' == k && d == q)]) ∧ Below w.heap.size w w' := by
  obtain ⟨F, NF, E, NE, L⟩ := letF
  obtain ⟨S, hS⟩ : ∃ S : Ending → World → Prop, (fun e w' => e = .returned (.tuple #[.bool (k' == k && d == q), .bool (k' == k && d == q)]) ∧ Below w.heap.size w w') = S := ⟨_, rfl⟩
  rw [hS]
  have HSS := Lib.hid hS
  clear hS
  obtain ⟨g, c, rfl, hg, hgr⟩ := hv
  have hfld := fun w v => fld_dir v w
  have HK := Lib.hid (And.intro hk (And.intro hd (And.intro hb (And.intro hq (And.intro hkk (And.intro hlt (And.intro hr (And.intro hg hgr))))))))
  clear hk hd hb hq hkk hlt hr hg hgr
  go_enter Tryz.func53, Tryz.ntmps53
  have HN := Lib.hid (di_normal1 k' HK.out.1 d HK.out.2.1 HK.out.2.2.1 (w.heap.size + 1) 1 g c ((w.alloc (.cells #[.slice (some ⟨g, 0, none⟩) 1 c] 24)).alloc (.cells #[.slice (some ⟨g, 0, none⟩) 1 c] 22)) (by
    have := heap_alloc_new (w.alloc (.cells #[.slice (some ⟨g, 0, none⟩) 1 c] 24)) (.cells #[.slice (some ⟨g, 0, none⟩) 1 c] 22)
    rw [World.size_alloc] at this
    exact (one_cell this).1) (fun j u hu => al_cell _ (al_cell _ (HK.out.2.2.2.2.2.2.2.2 j u hu))) (by have := HK.out.2.2.2.2.2.2.2.1; simp; omega))
  have laF : ∀ w, Sem.run Tryz.prog (isAgg F) w = .ok true w := fun w => by rw [L.tyF]; exact Tryz.isAgg68 w
  have lzF : ∀ w, Sem.run Tryz.prog (sizeOf F) w = .ok NF w := fun w => by rw [L.tyF, L.szF]; exact Tryz.sizeOf68 w
  have o1 : ∀ x, Op.load 68 x = Op.load F x := fun x => by rw [L.tyF]
  have o2 : ∀ x y, Op.store 68 x y = Op.store F x y := fun x y => by rw [L.tyF]
  have HLET := Lib.hid L
  clear L
  simp only [o1, o2]
  clear o1 o2
  go_wp2_with (go_at_call 35; refine HN.out.mono ?_; rintro e W ⟨_, rfl, ⟨g2, c2, rfl, hg2, hr2⟩, hb2⟩)
  obtain ⟨fc, hfc⟩ : ∃ fc, factC k' d = fc := ⟨_, rfl⟩
  have hsz : fc.size = 22 := by rw [← hfc]; exact factC_size HK.out.2.1
  have hfs : fc.size = NF := by rw [hsz, HLET.out.szF]
  have e1 := heap_alloc_new W (.cells (factC k' d) 68)
  obtain ⟨c0, -, -, -, -, -, -, f0⟩ := fact_cells e1
  have hs3 := st_new (w := W) (cs := fc) (z := #[.int .i64 0, .string ⟨#[]⟩, .int .i64 0, .int .i64 0, .int .i64 0, .slice none 0 0, .int .u8 0, .int .u8 0, .int .u8 0, .int .u8 0, .int .u8 0, .int .u8 0, .int .u8 0, .int .u8 0, .int .u8 0, .int .u8 0, .int .u8 0, .int .u8 0, .int .u8 0, .int .u8 0, .int .u8 0, .int .u8 0]) (t := 68) (by rw [hsz]; rfl) (by rw [← hfc]; exact factC_one k' d)
  rw [hfc] at c0 f0 hr2 e1
  have hl3 := ld_mid (N := NF) (n := 22) HLET.out.szF hr2 (by simpa using hsz)
  have hl4 := ld_mid (N := NF) (n := 22) HLET.out.szF (range_block e1) (by simpa using hsz)
  rw [Array.toArray_toList] at hl3 hl4
  have hlt1 : b < (W.alloc (.cells fc 68)).heap.size := by
    have := hb2.size
    have := HK.out.2.2.2.2.2.1
    simp at *
    omega
  have HIS := Lib.hid (di_is k' d q HK.out.2.1 HK.out.2.2.2.1 b (W.alloc (.cells fc 68)) (fun j u hu => al_cell _ ((hb2.cell (p := ⟨b, 0 + j, none⟩) (by have := HK.out.2.2.2.2.2.1; simp; omega)).trans (al_cell _ (al_cell _ (HK.out.2.2.2.2.2.2.1 j u hu))))))
  have HPT := Lib.hid (fun w => di_part k' d w)
  rw [hfc] at HIS HPT
  have HL5 := Lib.hid (show ∀ W', Below (W.alloc (.cells fc 68)).heap.size (W.alloc (.cells fc 68)) W' → Sem.run Tryz.prog (loadCellsFrom ⟨W.heap.size, 0, none⟩ 0 NF #[]) W' = .ok fc W' from fun W' h => by
    have := ld_mid (N := NF) (n := 22) HLET.out.szF (range_block ((h.block _ (by simp)).trans e1)) (by simpa using hsz)
    rwa [Array.toArray_toList] at this)
  have HBW := Lib.hid (show Below w.heap.size w (W.alloc (.cells fc 68)) from ((((Below.refl _ _).alloc (Nat.le_refl _) _).alloc (by simp) _).trans (hb2.mono (by simp; omega))).alloc (by have := hb2.size; simp at this; omega) _)
  have HB := Lib.hid hb2
  have HFC := Lib.hid hfc
  clear hfc hsz e1 hr2 hb2 hlt1 hg2
  refine wp_loop_rounds 2 ?_
  rw [rounds_succ]
  have hkz : k' ≤ 4 := by rcases HK.out.1 with h | h <;> omega
  by_cases ek : k' = k
  · subst ek
    cases hdq : (d == q)
    · rw [hdq] at HIS
      go_wp2_with (first | ((go_at_call 54; refine HIS.out.mono ?_; rintro e W3 ⟨rfl, hb3⟩)))
      rw [rounds_succ]
      go_wp2_with fail
      rw [← HSS.out]
      exact ⟨by simp [hdq], HBW.out.trans (hb3.mono HBW.out.size)⟩
    · rw [hdq] at HIS
      go_wp2_with (first | ((go_at_call 54; refine HIS.out.mono ?_; rintro e W3 ⟨rfl, hb3⟩; have hl5 := HL5.out W3 hb3)) | ((go_at_call 55; refine (HPT.out _).mono ?_; rintro e W4 ⟨rfl, hb4⟩)))
      rw [← HSS.out]
      have h3 := HBW.out.trans (hb3.mono HBW.out.size)
      exact ⟨by simp [hdq], h3.trans (hb4.mono h3.size)⟩
  · have ek2 : ¬ ((k' : Int) = (k : Int)) := by omega
    go_wp2_with fail
    rw [rounds_succ]
    go_wp2_with fail
    rw [← HSS.out]
    exact ⟨by simp [ek], HBW.out⟩
/-- is there a fact of this kind with this digest? -/
def lists (o : Option (Nat × List Nat)) (k : Nat) (q : List Nat) : Bool :=
  match o with
  | none => false
  | some (k', d) => k' == k && d == q
set_option maxRecDepth 100000 in
set_option maxHeartbeats 4000000 in
theorem di_listed (k : Nat) (hkk : k ≤ 4) (q : List Nat) (hq : q.length = 16) (o : Option (Nat × List Nat)) (v : Value) (w : World) (hv : Dir1 w v o) :
    Calls Tryz.prog 29 #[.agg #[v], .int .i64 k, .agg (b8 q).toArray] w fun e w' => e = .returned (.bool (lists o k q)) ∧ Below w.heap.size w w' := by
  obtain ⟨S, hS⟩ : ∃ S : Ending → World → Prop, (fun e w' => e = .returned (.bool (lists o k q)) ∧ Below w.heap.size w w') = S := ⟨_, rfl⟩
  rw [hS]
  have HSS := Lib.hid hS
  clear hS
  have HV := Lib.hid (And.intro hkk (And.intro hq hv))
  clear hkk hq hv
  obtain ⟨qa, hqa⟩ : ∃ x, (b8 q).toArray = x := ⟨_, rfl⟩
  rw [hqa]
  go_enter Tryz.func29, Tryz.ntmps29
  obtain ⟨hkk, hq, hv⟩ := HV.out
  have hbw : Below w.heap.size w ((w.alloc (.cells #[v] 24)).alloc (.cells qa 39)) := ((Below.refl _ _).alloc (Nat.le_refl _) _).alloc (by simp) _
  match o, hv with
  | none, hv =>
    simp only [Dir1] at hv
    subst hv
    have HBW := Lib.hid hbw
    clear hbw hkk hq HV
    go_wp2_with (go_at_call 53; refine (di_find0 k _ _ _).mono ?_; rintro e W ⟨rfl, hb⟩)
    rw [← HSS.out]
    exact ⟨rfl, HBW.out.trans (hb.mono HBW.out.size)⟩
  | some (k', d), hv =>
    obtain ⟨hfa, hk, hd, hb⟩ := hv
    have hfa2 := FactAt.below hfa hbw
    have hr : ((w.alloc (.cells #[v] 24)).alloc (.cells qa 39)).rangeAt (w.heap.size + 1) 0 (b8 q) := by
      have := heap_alloc_new (w.alloc (.cells #[v] 24)) (.cells qa 39)
      rw [World.size_alloc] at this
      have h2 := range_block this
      rwa [show qa.toList = b8 q by rw [← hqa]] at h2
    have HF := Lib.hid (di_find1 k q hq (w.heap.size + 1) k' hk d hd hb hkk v _ (by simp) hr hfa2)
    have HBW := Lib.hid hbw
    have hlo : lists (some (k', d)) k q = (k' == k && d == q) := rfl
    rw [hlo] at HSS
    obtain ⟨bo, hbo⟩ : ∃ x, (k' == k && d == q) = x := ⟨_, rfl⟩
    rw [hbo] at HF HSS
    clear hbw hkk hq HV hfa hfa2 hr hk hd hb hlo hbo hqa
    go_wp2_with (go_at_call 53; refine HF.out.mono ?_; rintro e W ⟨rfl, hb⟩)
    rw [← HSS.out]
    exact ⟨rfl, HBW.out.trans (hb.mono HBW.out.size)⟩
set_option maxRecDepth 100000 in
set_option maxHeartbeats 4000000 in
theorem di_revoked (q : List Nat) (hq : q.length = 16) (o : Option (Nat × List Nat)) (v : Value) (w : World) (hv : Dir1 w v o) :
    Calls Tryz.prog 12 #[.agg #[v], .agg (b8 q).toArray] w fun e w' => e = .returned (.bool (lists o 3 q)) ∧ Below w.heap.size w w' := by
  obtain ⟨bo, hbo⟩ : ∃ x, lists o 3 q = x := ⟨_, rfl⟩
  rw [hbo]
  obtain ⟨S, hS⟩ : ∃ S : Ending → World → Prop, (fun e w' => e = .returned (.bool bo) ∧ Below w.heap.size w w') = S := ⟨_, rfl⟩
  rw [hS]
  have HSS := Lib.hid hS
  clear hS
  obtain ⟨R, K, L⟩ := letD
  obtain ⟨qa, hqa⟩ : ∃ x, (b8 q).toArray = x := ⟨_, rfl⟩
  have hbw : Below w.heap.size w ((w.alloc (.cells #[v] 24)).alloc (.cells qa 39)) := ((Below.refl _ _).alloc (Nat.le_refl _) _).alloc (by simp) _
  have hdv : Dir1 ((w.alloc (.cells #[v] 24)).alloc (.cells qa 39)) v o := by
    match o, hv with
    | none, hv => exact hv
    | some (k', d), hv => exact ⟨FactAt.below hv.1 hbw, hv.2⟩
  have HL := Lib.hid (di_listed 3 (by decide) q hq o v _ hdv)
  rw [hbo, hqa] at HL
  have hl : Sem.run Tryz.prog (loadCellsFrom ⟨w.heap.size + 1, 0, none⟩ 0 K #[]) ((w.alloc (.cells #[v] 24)).alloc (.cells qa 39)) = .ok qa ((w.alloc (.cells #[v] 24)).alloc (.cells qa 39)) := by
    have := heap_alloc_new (w.alloc (.cells #[v] 24)) (.cells qa 39)
    rw [World.size_alloc] at this
    have := ld_mid L.sz (range_block this) (by rw [← hqa]; simp [b8_len, hq])
    rwa [Array.toArray_toList] at this
  rw [hqa]
  have HBW := Lib.hid hbw
  have la : ∀ w, Sem.run Tryz.prog (isAgg R) w = .ok true w := fun w => by rw [L.ty]; exact Tryz.isAgg39 w
  have lz : ∀ w, Sem.run Tryz.prog (sizeOf R) w = .ok K w := fun w => by rw [L.ty, L.sz]; exact Tryz.sizeOf39 w
  have hlo : ∀ x, Op.load 39 x = Op.load R x := fun x => by rw [L.ty]
  clear hbw hdv hqa hbo hq hv L
  go_enter Tryz.func12, Tryz.ntmps12
  simp only [hlo]
  clear hlo
  go_wp2_with (go_at_call 29; refine HL.out.mono ?_; rintro e W ⟨rfl, hb⟩)
  rw [← HSS.out]
  exact ⟨rfl, HBW.out.trans (hb.mono HBW.out.size)⟩
set_option maxRecDepth 100000 in
set_option maxHeartbeats 4000000 in
theorem di_bad (q : List Nat) (hq : q.length = 16) (o : Option (Nat × List Nat)) (v : Value) (w : World) (hv : Dir1 w v o) :
    Calls Tryz.prog 11 #[.agg #[v], .agg (b8 q).toArray] w fun e w' => e = .returned (.bool (lists o 4 q)) ∧ Below w.heap.size w w' := by
  obtain ⟨bo, hbo⟩ : ∃ x, lists o 4 q = x := ⟨_, rfl⟩
  rw [hbo]
  obtain ⟨S, hS⟩ : ∃ S : Ending → World → Prop, (fun e w' => e = .returned (.bool bo) ∧ Below w.heap.size w w') = S := ⟨_, rfl⟩
  rw [hS]
  have HSS := Lib.hid hS
  clear hS
  obtain ⟨R, K, L⟩ := letD
  obtain ⟨qa, hqa⟩ : ∃ x, (b8 q).toArray = x := ⟨_, rfl⟩
  have hbw : Below w.heap.size w ((w.alloc (.cells #[v] 24)).alloc (.cells qa 39)) := ((Below.refl _ _).alloc (Nat.le_refl _) _).alloc (by simp) _
  have hdv : Dir1 ((w.alloc (.cells #[v] 24)).alloc (.cells qa 39)) v o := by
    match o, hv with
    | none, hv => exact hv
    | some (k', d), hv => exact ⟨FactAt.below hv.1 hbw, hv.2⟩
  have HL := Lib.hid (di_listed 4 (by decide) q hq o v _ hdv)
  rw [hbo, hqa] at HL
  have hl : Sem.run Tryz.prog (loadCellsFrom ⟨w.heap.size + 1, 0, none⟩ 0 K #[]) ((w.alloc (.cells #[v] 24)).alloc (.cells qa 39)) = .ok qa ((w.alloc (.cells #[v] 24)).alloc (.cells qa 39)) := by
    have := heap_alloc_new (w.alloc (.cells #[v] 24)) (.cells qa 39)
    rw [World.size_alloc] at this
    have := ld_mid L.sz (range_block this) (by rw [← hqa]; simp [b8_len, hq])
    rwa [Array.toArray_toList] at this
  rw [hqa]
  have HBW := Lib.hid hbw
  have la : ∀ w, Sem.run Tryz.prog (isAgg R) w = .ok true w := fun w => by rw [L.ty]; exact Tryz.isAgg39 w
  have lz : ∀ w, Sem.run Tryz.prog (sizeOf R) w = .ok K w := fun w => by rw [L.ty, L.sz]; exact Tryz.sizeOf39 w
  have hlo : ∀ x, Op.load 39 x = Op.load R x := fun x => by rw [L.ty]
  clear hbw hdv hqa hbo hq hv L
  go_enter Tryz.func11, Tryz.ntmps11
  simp only [hlo]
  clear hlo
  go_wp2_with (go_at_call 29; refine HL.out.mono ?_; rintro e W ⟨rfl, hb⟩)
  rw [← HSS.out]
  exact ⟨rfl, HBW.out.trans (hb.mono HBW.out.size)⟩
end Go.Proofs.YtdeccekeknlnoaaGreatDoor
