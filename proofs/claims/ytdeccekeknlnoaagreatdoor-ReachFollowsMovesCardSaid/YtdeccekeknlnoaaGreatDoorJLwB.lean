/- Chapter 38: what the law's walk needs: owned rows of moves, the route's bytes. | Chapter 38: the walk of ReachFollowsMoves. -/
import Derived.Test.YtdeccekeknlnoaaGreatDoorJSaC
import Derived.Laws.AppendOwnNone
import Derived.Laws.BytesArg
import Derived.Laws.Cover1
namespace Go.Proofs.YtdeccekeknlnoaaGreatDoor
open Go.RowKit Go.Sort Go.Lib Go.Shelf
def bt (r : List Nat) (i : Nat) : Nat := r[i]!
/-- the route: a slice of bytes -/
def RB (w : World) (v : Value) (r : List Nat) : Prop := ∃ A c, v = .slice A r.length c ∧ r.length ≤ c ∧ c ≤ maxLen ∧ (∀ x ∈ r, x < 256) ∧ (0 < r.length → ∃ b o, A = some ⟨b, o, none⟩ ∧ b < w.heap.size ∧ ∀ i, i < r.length → w.cell? ⟨b, o + i, none⟩ = some (.int .u8 (bt r i : Nat)))
/-- moves of its own -/
def OM (w : World) (B : Nat) (v : Value) (ms : List (Int × Dg × Dg)) : Prop := w.ownsRow B 55 33 v ms.length (mvFlat ms)
theorem OM.nil (w : World) (B : Nat) : OM w B (.slice none 0 0) [] := World.ownsRow_nil _ _ _ _
theorem OM.below {w w' : World} {B : Nat} {v : Value} {l : List (Int × Dg × Dg)} (h : OM w B v l) (hb : Below w.heap.size w w') : OM w' B v l :=
  own_frame h fun k hk => hb.block k (h.lt k hk).2
theorem OM.form {w : World} {B : Nat} {v : Value} {ms : List (Int × Dg × Dg)} (h : OM w B v ms) : ∃ A c, v = .slice A ms.length c ∧ MvAt w A ms ∧ ((A = none ∧ ms = [] ∧ c = 0) ∨ ∃ g, A = some ⟨g, 0, none⟩ ∧ ∀ j u, (mvFlat ms)[j]? = some u → w.cell? ⟨g, j, none⟩ = some u) := by
  rcases id h with ⟨h1, ⟨rfl, h0⟩ | ⟨g, cap, cur, rfl, hb, hg, h2⟩⟩
  · refine ⟨none, 0, by rw [h0], fun i m hi => ?_, .inl ⟨rfl, List.length_eq_zero_iff.1 h0, rfl⟩⟩
    rw [List.length_eq_zero_iff.1 h0] at hi
    simp at hi
  · have hc : ∀ j u, (mvFlat ms)[j]? = some u → w.cell? ⟨g, j, none⟩ = some u := fun j u hu => by
      have := World.ownsRow.cellAt h j (by have := (List.getElem?_eq_some_iff.1 hu).1; rw [mvFlat_len] at this; exact this)
      rw [this, hu]
    exact ⟨some ⟨g, 0, none⟩, cap, rfl, mv_cells (lt_of_block hg) hc, .inr ⟨g, rfl, hc⟩⟩
theorem info_move : ∃ z, (Tryz.prog.info? 55).map (fun i => (i.zero, i.size, i.bytes)) = some (some z, 33, 40) ∧ z.cells.size = 33 := ⟨.agg (.int .i64 0 :: (b8 (List.replicate 16 0) ++ b8 (List.replicate 16 0))).toArray, by kernel_rfl, rfl⟩
theorem step_wp {P : Program} {ops : Array Oper} {o : Oper} {a : Act} {w : World} {K : Act → World → Prop} {Q : Exit → Act → World → Prop} {E : Prop} (hg : o.guard = none) (h : Oper.wp P o a w K Q) : if Region.wanted o (yielded ops a.tmps) = true then Oper.wp P o a w K Q else E := by
  have hw : Region.wanted o (yielded ops a.tmps) = true := by simp [Region.wanted, hg]
  rw [if_pos hw]
  exact h
theorem mvs_next (s : Int) (r : List Nat) (k : Nat) : mvs s r (k + 1) = mvs s r k ++ [(s, devG (bt r k), devG (bt r (k + 1)))] := mvs_succ s r k
theorem acc_rt (s : Int) (r : List Nat) (k i : Nat) (h : i ≤ k) : devG (bt r i) ∈ accAll s (devG (bt r 0)) (mvs s r k) := acc_route s r k i h
theorem mv_lim (s : Int) (r : List Nat) {k : Nat} (h : k < 20) : (mvs s r k).length + 1 ≤ maxLen ∧ ((mvs s r k).length + 1) * 40 ≤ 140737488355328 := by
  rw [mvs_len]
  unfold maxLen
  omega
/-- append of a row that may be nil -/
theorem wpList_append_any {P : Program} (w : World) {ops : Array Oper} {rest : List Oper} {o : Oper} {a : Act} {Q : Exit → Act → World → Prop} (hgd : o.guard = none) (s x : Operand) (t : TypeId)
    (ho : o.op = .call { callee := .builtin .append, args := #[s, x], argTypes := #[t, t] })
    (base : Nat) (e : TypeId) (i : TypeInfo) (z : Value) (size bytes : Nat) (ht : P.underlying t = some (.slice e)) (hi : P.info? e = some i) (hz : i.zero = some z)
    (hsize : i.size = size) (hby : i.bytes = bytes) (hzs : z.cells.size = size) (hsz : 0 < size)
    (v : Value) (n : Nat) (xs : List Value) (hs : a.eval s = v) (hown : w.ownsRow base e size v n xs)
    (A : Option Addr) (m c : Nat) (news : List Value) (hx : a.eval x = .slice A m c) (hl : news.length = m * size) (hA : (A = none ∧ m = 0 ∧ c = 0) ∨ ∃ g, A = some ⟨g, 0, none⟩ ∧ ∀ j u, news[j]? = some u → w.cell? ⟨g, j, none⟩ = some u) (h1 : ∀ u ∈ news, u.oneCell' = true)
    (h63 : n + m ≤ maxLen) (hbytes : (n + m) * bytes ≤ 140737488355328) (hbase : base ≤ w.heap.size)
    (h : ∀ v' w', w'.ownsRow base e size v' (n + m) (xs ++ news) → Below base w w' → wpList P ops Q rest (a.put o.dst v') w') : wpList P ops Q (o :: rest) a w := by
  rcases hA with ⟨rfl, rfl, rfl⟩ | ⟨g, rfl, hc⟩
  · obtain rfl : news = [] := List.length_eq_zero_iff.1 (by simpa using hl)
    refine wpList_append_own_none hgd s x t ho base e i size ht hi v n xs hs hown hx (h v w ?_ (Below.refl _ _))
    rw [List.append_nil, Nat.add_zero]
    exact hown
  · refine wpList_append_own w hgd s x t ho base e i z size bytes ht hi hz hsize hby hzs hsz v n xs hs hown ⟨g, 0, none⟩ m c news hx hl (fun j u hu => by rw [Addr.add_mid, Nat.zero_add]; exact hc j u hu) h1 h63 hbytes hbase (fun v' w' h2 h3 _ => h v' w' h2 (grown_below h3 hown hbase))
/-- digests as strings, their order -/
def dgS (x : Dg) : ByteArray := strOfNums (x.val.map fun (n : Nat) => (n : Int))
theorem less_lex : ∀ d e : List Nat, (∀ x ∈ d, x < 256) → (∀ x ∈ e, x < 256) → lexD d e < 0 → Op.bytesLess (d.map fun n => UInt8.ofNat n) (e.map fun n => UInt8.ofNat n) = true
  | [], [], _, _, h => by simp [lexD] at h
  | [], _ :: _, _, _, _ => rfl
  | _ :: _, [], _, _, h => by simp [lexD] at h
  | a :: d, b :: e, hd, he, h => by
    have ha := hd a (by simp)
    have hb := he b (by simp)
    have I := less_lex d e (fun x hx => hd x (by simp [hx])) (fun x hx => he x (by simp [hx]))
    unfold lexD at h
    simp only [List.map_cons, Op.bytesLess]
    split at h
    · rename_i hab
      have : UInt8.ofNat a < UInt8.ofNat b := by rw [UInt8.lt_iff_toNat_lt]; simp [Nat.mod_eq_of_lt ha, Nat.mod_eq_of_lt hb, hab]
      simp [this]
    · split at h
      · simp at h
      · rename_i h1 h2
        obtain rfl : a = b := by omega
        simp [I h]
theorem dgS_list (x : Dg) : (dgS x).toList = x.val.map fun n => UInt8.ofNat n := by
  rw [ByteArray.toList_eq, dgS, strOfNums_data, List.map_map]
  rfl
theorem less_of {x y : Dg} (h : ltD x y) : Op.bytesLess (dgS x).toList (dgS y).toList = true := by
  rw [dgS_list, dgS_list]
  exact less_lex _ _ x.property.2 y.property.2 h
theorem dg_conv (x : Dg) {W : World} {b o : Nat} (h : W.rangeAt b o (dgVals x.val)) : Sem.run Tryz.prog (convert 52 9 (.slice (some ⟨b, o, none⟩) 16 16)) W = .ok (.string (dgS x)) W := by
  refine run_convert_bytes_arg (P := Tryz.prog) W 52 5 Tryz.underlying52 Tryz.underlying5 b o 16 16 (x.val.map fun (n : Nat) => (n : Int)) (by simpa using x.property.1) (fun i hi => ?_) 9 Tryz.underlying9
  have e : x.val[i]? = some x.val[i] := List.getElem?_eq_getElem (by rw [x.property.1]; exact hi)
  rw [h i (.int .u8 (x.val[i] : Nat)) (by rw [dgVals, List.getElem?_map, e]; rfl)]
  simp [List.getD_eq_getElem?_getD, e]
theorem exec_build1 {P : Program} {o : Oper} {ρ : Operand → Value} {t : TypeId} {i : Nat} {x : Operand} {a v : Value} {w w' : World} (ho : o.op = .build t #[(i, x)]) (hx : ρ x = a) (hr : (Instr.build t #[(i, a)]).run P w = .ok v w') : (execOp ρ o).run P w = .ok (.value v) w' := by
  simp only [execOp, ho, List.map_toArray, List.map_cons, List.map_nil, hx]
  simp [hr]
theorem srcs_below {w w' : World} {A : Option Addr} {c n : Nat} {ms : List (Int × Dg × Dg)} (h : (A = none ∧ ms = [] ∧ c = 0) ∨ ∃ g, A = some ⟨g, 0, none⟩ ∧ ∀ j u, (mvFlat ms)[j]? = some u → w.cell? ⟨g, j, none⟩ = some u) (hb : Below w.heap.size w w') (hn : ms.length = n) :
    (A = none ∧ n = 0 ∧ c = 0) ∨ ∃ g, A = some ⟨g, 0, none⟩ ∧ ∀ j u, (mvFlat ms)[j]? = some u → w'.cell? ⟨g, j, none⟩ = some u := by
  rcases h with ⟨rfl, rfl, rfl⟩ | ⟨g, rfl, hc⟩
  · exact .inl ⟨rfl, hn.symm, rfl⟩
  · refine .inr ⟨g, rfl, fun j u hu => ?_⟩
    have := hc j u hu
    exact (hb.cell (p := ⟨g, j, none⟩) (World.block_lt_of_cell? w _ this)).trans this
theorem ix_facts {j m : Nat} (h : j + 1 < m) (hm : m ≤ 9223372036854775807) : wrap64 ((j : Int) + 1 - 1) = (j : Int) ∧ wrap64 (j : Int) = (j : Int) ∧ IntKind.i64.wrap ((j : Int) + 1 - 1) = (j : Int) ∧ IntKind.i64.wrap (j : Int) = (j : Int) ∧ (j : Int) < m ∧ 0 ≤ (j : Int) ∧ 0 ≤ (j : Int) + 1 ∧ ((j : Int) + 1).toNat = j + 1 ∧ wrap64 ((j : Int) + 1 + 1) = (j : Int) + 1 + 1 ∧ (j : Int) + 1 < m := by
  have i1 : wrap64 ((j : Int) + 1 - 1) = (j : Int) := by unfold wrap64; omega
  have i2 : wrap64 (j : Int) = (j : Int) := by unfold wrap64; omega
  refine ⟨i1, i2, by rw [raw_wrap]; exact i1, by rw [raw_wrap]; exact i2, by omega, by omega, by omega, by omega, by unfold wrap64; omega, by omega⟩
theorem one_lim {k : Nat} (_h : k < 20) : 1 + k ≤ maxLen ∧ (1 + k) * 40 ≤ 140737488355328 := by
  unfold maxLen
  omega
/-- the moves with an early one in front -/
theorem mvFlat_cons (m : Int × Dg × Dg) (l : List (Int × Dg × Dg)) : mvFlat (m :: l) = mvl m ++ mvFlat l := by simp [mvFlat]
theorem sec_ne {s : Int} (_h : -9223372036854775808 ≤ s ∧ s ≤ 9223372036854775807) : s ≠ wrap64 (s + 1) := by
  unfold wrap64
  omega
end Go.Proofs.YtdeccekeknlnoaaGreatDoor

namespace Go.Proofs.YtdeccekeknlnoaaGreatDoor
open Go.RowKit Go.Sort Go.Lib Go.Shelf
set_option maxRecDepth 1000000 in
set_option maxHeartbeats 1000000 in
theorem law_follows {Ks : List Int} {st : V8} (s : Int) (hs : -9223372036854775808 ≤ s ∧ s ≤ 9223372036854775807) (v : Value) (r : List Nat) (e : Nat) (he : e < 256) (w : World) (hg : Gl w) (hsh : ShaG w Ks st) (hv : GlV w) (hr : RB w v r) :
    Calls Tryz.prog 4 #[.int .i64 s, v, .int .u8 e] w fun e w' => e = .returned (.bool true) ∧ Below w.heap.size w w' := by
  obtain ⟨S, hS⟩ : ∃ S : Ending → World → Prop, (fun e w' => e = .returned (.bool true) ∧ Below w.heap.size w w') = S := ⟨_, rfl⟩
  rw [hS]
  have HSS := Lib.hid hS
  obtain ⟨A, c, rfl, hlc, hcm, hby, hcells⟩ := hr
  have HSAN := Lib.hid (sanity_true w hg hsh hv)
  obtain ⟨n, hn⟩ : ∃ n, r.length = n := ⟨_, rfl⟩
  have HR := Lib.hid (And.intro hby (And.intro hcells hn))
  have HS := Lib.hid hs
  have HE := Lib.hid he
  rw [hn]
  clear hS hg hsh hv hs he hlc hcm hby hcells hn
  by_cases h20 : (20 : Int) < n
  · go_enter Tryz.func4, Tryz.ntmps4
    go_wp2_with (go_at_call 7; refine HSAN.out.mono ?_; rintro e W1 ⟨rfl, hb1⟩)
    rw [← HSS.out]
    exact ⟨rfl, hb1⟩
  by_cases h0 : (n : Int) = 0
  · go_enter Tryz.func4, Tryz.ntmps4
    go_wp2_with (go_at_call 7; refine HSAN.out.mono ?_; rintro e W1 ⟨rfl, hb1⟩)
    rw [← HSS.out]
    exact ⟨rfl, hb1⟩
  obtain ⟨hby, hcells, hn⟩ := HR.out
  obtain ⟨rb, ro, rfl, hrb, hrc⟩ := hcells (by omega)
  obtain ⟨n', hn'⟩ : ∃ n', n = n' + 1 := ⟨n - 1, by omega⟩
  have HN := Lib.hid (show r.length = n ∧ n' < 20 ∧ n = n' + 1 from ⟨hn, by omega, hn'⟩)
  have h00 : w.cell? ⟨rb, ro, none⟩ = some (.int .u8 (bt r 0 : Nat)) := hrc 0 (by omega)
  have HX := Lib.hid (show ∀ i, i < n → bt r i < 256 from fun i hi => by
    have hl : i < r.length := by omega
    rw [show bt r i = r[i] by simp [bt, hl]]
    exact hby _ (List.getElem_mem hl))
  have HRC := Lib.hid (And.intro hrb (show ∀ i, i < n → w.cell? ⟨rb, ro + i, none⟩ = some (.int .u8 (bt r i : Nat)) from fun i hi => hrc i (by omega)))
  have hp1 : (0 : Int) < (n : Int) := by omega
  have hp1n : 0 < n := by omega
  have hb20 : decide ((20 : Int) < (n : Int)) = false := by simpa using h20
  have hb0 : ((n : Int) == 0) = false := by simpa using h0
  clear hby hcells hn hrb hrc HR hn'
  go_enter Tryz.func4, Tryz.ntmps4
  go_upto_region 4 with (go_at_call 7; refine HSAN.out.mono ?_; rintro e W1 ⟨rfl, hb1⟩; have h01 : W1.cell? ⟨rb, ro, none⟩ = some (.int .u8 (bt r 0 : Nat)) := (hb1.cell (p := ⟨rb, ro, none⟩) HRC.out.1).trans h00)
  have hx0 := HX.out 0 (by have := HN.out; omega)
  have HB1 := Lib.hid hb1
  have HDV := Lib.hid (lw_device (bt r 0) W1)
  rw [← devG_val hx0] at HDV
  obtain ⟨d0, hd0⟩ : ∃ d, devG (bt r 0) = d := ⟨_, rfl⟩
  rw [hd0] at HDV
  have HD0 := Lib.hid hd0
  have hgb := fun w => build_grant3 s d0.property.1 ⟨#[97, 110, 121]⟩ w
  have hgs := fun w => build_grants s d0.property.1 ⟨#[97, 110, 121]⟩ none 0 0 none 0 0 w
  obtain ⟨gv, hgv⟩ : ∃ gv, (Value.int .i64 s :: (b8 d0.val ++ [.string ⟨#[97, 110, 121]⟩, .slice none 0 0, .slice none 0 0])).toArray = gv := ⟨_, rfl⟩
  have hgv' := hgv
  rw [hgv] at hgb hgs
  obtain ⟨dv0, hdv0⟩ : ∃ x, (b8 d0.val).toArray = x := ⟨_, rfl⟩
  rw [hdv0] at hgb HDV
  have HGV := Lib.hid hgv'
  clear hx0 hb1 hd0 hgv hgv' hdv0
  refine wp_region_list ?_
  refine wpList_step (fun K hK => ?_)
  go_simp
  refine hK _ _ ?_
  clear hK K
  try simp only [Act.put, List.setIfInBounds_toArray, List.set_cons_zero, List.set_cons_succ]
  refine wpList_step (fun K hK => ?_)
  go_simp
  refine hK _ _ ?_
  clear hK K
  try simp only [Act.put, List.setIfInBounds_toArray, List.set_cons_zero, List.set_cons_succ]
  refine wpList_step (fun K hK => ?_)
  go_simp
  refine hK _ _ ?_
  clear hK K
  try simp only [Act.put, List.setIfInBounds_toArray, List.set_cons_zero, List.set_cons_succ]
  refine wpList_step (fun K hK => ?_)
  go_simp
  refine hK _ _ ?_
  clear hK K
  try simp only [Act.put, List.setIfInBounds_toArray, List.set_cons_zero, List.set_cons_succ]
  refine wpList_step (fun K hK => ?_)
  go_simp
  refine HDV.out.mono ?_
  rintro e W2 ⟨rfl, hb2⟩
  refine hK _ _ ?_
  clear hK K
  try simp only [Act.put, List.setIfInBounds_toArray, List.set_cons_zero, List.set_cons_succ]
  refine wpList_step (fun K hK => ?_)
  refine step_val rfl (exec_build3 rfl rfl rfl rfl (hgb W2)) ?_
  refine hK _ _ ?_
  clear hK K
  try simp only [Act.put, List.setIfInBounds_toArray, List.set_cons_zero, List.set_cons_succ]
  refine wpList_step (fun K hK => ?_)
  refine step_val rfl (exec_slice1 rfl rfl (hgs W2)) ?_
  refine hK _ _ ?_
  clear hK K
  try simp only [Act.put, List.setIfInBounds_toArray, List.set_cons_zero, List.set_cons_succ]
  go_upto_region 5 with fail
  obtain ⟨W3, hW3⟩ : ∃ X, W2.alloc (.cells gv 43) = X := ⟨_, rfl⟩
  rw [hW3]
  have b23 : Below W2.heap.size W2 W3 := by rw [← hW3]; exact Below.new _
  have b13 : Below W1.heap.size W1 W3 := hb2.trans (b23.mono hb2.size)
  have b03 : Below w.heap.size w W3 := HB1.out.trans (b13.mono HB1.out.size)
  have e3 : W3.heap[W2.heap.size]? = some (.cells gv 43 (0, 0)) := by rw [← hW3]; exact heap_alloc_new _ _
  have HK := Lib.hid (show ∀ V, Below W3.heap.size W3 V → Below w.heap.size w V ∧ V.rangeAt W2.heap.size 0 (grl s d0 [.string ⟨#[97, 110, 121]⟩, .slice none 0 0, .slice none 0 0]) ∧ ∀ i, i < n → V.cell? ⟨rb, ro + i, none⟩ = some (.int .u8 (bt r i : Nat)) from fun V hV => by
    have b := b03.trans (hV.mono b03.size)
    refine ⟨b, fun j u hu => range_block ((hV.block _ (lt_of_block e3)).trans e3) j u (by rw [← HGV.out]; exact hu), fun i hi => (b.cell (p := ⟨rb, ro + i, none⟩) HRC.out.1).trans (HRC.out.2 i hi)⟩)
  have HR1 := Lib.hid (show ∀ u ∈ ([.string ⟨#[97, 110, 121]⟩, .slice none 0 0, .slice none 0 0] : List Value), u.oneCell' = true from fun u hu => by
    simp only [List.mem_cons, List.mem_nil_iff, or_false] at hu
    rcases hu with rfl | rfl | rfl <;> rfl)
  obtain ⟨zm, hie, hzz⟩ := info_move
  obtain ⟨i0, hi, hz0, hz1, hz2⟩ := info_parts hie
  have HI := Lib.hid (And.intro hi (And.intro hz0 (And.intro hz1 (And.intro hz2 hzz))))
  clear hie hi hz0 hz1 hz2 hzz hW3 b23 b13 b03 e3 hb2 h00 h01 hgb hgs
  go_wp2_with fail
  go_loopg [9, 10] n' (fun g s9 s10 wr => ∃ (k : Nat) (v9 : Value), k + g = n' ∧ s10 = .int .i64 ((k : Int) + 1) ∧ v9 = s9 ∧ Hid (OM wr W3.heap.size v9 (mvs s r k) ∧ Below W3.heap.size W3 wr))
  case atStart => exact ⟨0, _, by omega, by first | rfl | simp, rfl, Lib.hid ⟨OM.nil _ _, Below.refl _ _⟩⟩
  case round =>
    obtain ⟨k, v9, hk, rfl, rfl, HO⟩ := hrel
    cases gk with
    | zero =>
      obtain rfl : k = n' := by omega
      have hi : ¬ ((k : Int) + 1 < n) := by have := HN.out; omega
      go_upto_region 10 with fail
      obtain ⟨hom, hbw⟩ := HO.out
      obtain ⟨A9, c9, rfl, hmv, hA9⟩ := hom.form
      rw [mvs_len] at hom ⊢
      have HHO := Lib.hid (show Calls Tryz.prog 15 #[.slice (some ⟨W2.heap.size, 0, none⟩) 1 1, .slice A9 k c9, .int .i64 s] wr (HoldSay wr (accAll s d0 (mvs s r k))) from by
        have := ho_some s d0 _ rfl HR1.out (mvs s r k) W2.heap.size 1 c9 A9 wr (HK.out wr hbw).2.1 hmv (by rw [mvs_len]; have := HN.out; omega)
        rw [accTo_all, mvs_len] at this
        exact this)
      have HM9 := Lib.hid (And.intro hmv (And.intro hA9 (And.intro hom hbw)))
      clear hmv hA9 hom hbw HO hi hk
      obtain ⟨wo, hwo⟩ : ∃ X, X = wr := ⟨_, rfl⟩
      subst hwo
      go_upto_region 11 with (go_at_call 15; refine HHO.out.mono ?_; rintro e W6 ⟨v6, l, rfl, hnorm, hdg, hb6⟩)
      obtain ⟨A6, c6, rfl, hl6, hm6⟩ := hdg.form
      rw [List.length_map] at hl6 hdg ⊢
      have b36 : Below W3.heap.size W3 W6 := HM9.out.2.2.2.trans (hb6.mono HM9.out.2.2.2.size)
      have hpos : 0 < l.length := norm_pos hnorm (List.length_pos_of_mem (acc_rt s r k 0 (by omega)) |> fun h => by rw [← HD0.out]; exact h)
      obtain ⟨m, hm⟩ : ∃ m, l.length = m := ⟨_, rfl⟩
      have HL := Lib.hid (And.intro hnorm (And.intro hdg (And.intro hb6 (And.intro b36 (And.intro hm (And.intro hpos (And.intro hl6 hm6)))))))
      have HIN := Lib.hid (show ∀ V i, Below W6.heap.size W6 V → i ≤ k → Calls Tryz.prog 16 #[.slice A6 m c6, .agg (b8 (devL (bt r i))).toArray] V fun e w' => e = .returned (.bool true) ∧ Below V.heap.size V w' from fun V i hV hi => by
        rw [hm] at hdg
        have := ref_in (.slice A6 m c6) l (devG (bt r i)) V (RDigs.mono (RDigs.below hdg hV) hV.size)
        rw [devG_val (HX.out i (by have := HN.out; omega)), show decide (devG (bt r i) ∈ l) = true by
          rw [decide_eq_true_iff]
          refine (hnorm.mem _).2 ?_
          rw [← HD0.out]
          exact acc_rt s r k i hi] at this
        exact this)
      rw [hm] at ⊢
      clear hnorm hdg hb6 b36 hpos hm hl6 hm6 HHO
      go_wp2_with fail
      go_loopg [12] n (fun g s12 wr => ∃ i : Nat, i + g = n ∧ s12 = .int .i64 i ∧ Hid (Below W6.heap.size W6 wr))
      case atStart => exact ⟨0, by omega, rfl, Lib.hid (Below.refl _ _)⟩
      case round =>
        obtain ⟨i, hi0, rfl, HB⟩ := hrel
        cases gk with
        | succ g =>
          have hi : (i : Int) < n := by omega
          have hi2 : 0 ≤ (i : Int) ∧ (i : Int) < n := by omega
          have w3 : wrap64 ((i : Int) + 1) = (i : Int) + 1 := by have := HN.out; unfold wrap64; omega
          have hc := (HK.out wr (HL.out.2.2.2.1.trans (HB.out.mono HL.out.2.2.2.1.size))).2.2 i (by omega)
          have hik := Lib.hid (show i ≤ k by have := HN.out; omega)
          go_wp2_with (first
            | (go_at_call 14; refine (lw_device (bt r i) wr).mono ?_; rintro e V1 ⟨rfl, hV1⟩; have hV6 := HB.out.trans (hV1.mono HB.out.size); have HV6 := Lib.hid hV6; clear hV1 hV6)
            | (go_at_call 16; refine (HIN.out V1 i HV6.out hik.out).mono ?_; rintro e V2 ⟨rfl, hV2⟩; have HV7 := Lib.hid (HV6.out.trans (hV2.mono HV6.out.size)); clear hV2))
          go_roundg g
          case measure => omega
          case rel => exact ⟨i + 1, by omega, by first | rfl | go_num, HV7⟩
        | zero =>
          obtain rfl : i = n := by omega
          have hi : ¬ (i : Int) < i := by omega
          go_upto_region 16 with fail
          obtain ⟨w7, hw7⟩ : ∃ X, X = wr := ⟨_, rfl⟩
          subst hw7
          obtain ⟨m', hm'⟩ : ∃ m', m = m' + 1 := ⟨m - 1, by have h1 := HL.out.2.2.2.2.1; have h2 := HL.out.2.2.2.2.2.1; omega⟩
          have HMM := Lib.hid (show m = m' + 1 ∧ m ≤ 9223372036854775807 from ⟨hm', by have h1 := HL.out.2.2.2.2.1; have h2 := HL.out.2.2.2.2.2.2.1; have h3 := HL.out.2.2.2.2.2.2.2; unfold maxLen at h3; omega⟩)
          clear hm' hi
          go_wp2_with fail
          go_loopg [13] m' (fun g s13 wr => ∃ j : Nat, j + g = m' ∧ s13 = .int .i64 ((j : Int) + 1) ∧ Hid (Below W6.heap.size W6 wr))
          case atStart => exact ⟨0, by omega, by first | rfl | simp, HB⟩
          case round =>
            obtain ⟨j, hj0, rfl, HB3⟩ := hrel
            cases gk with
            | succ g =>
              have hi : (j : Int) + 1 < m := by have := HMM.out; omega
              obtain ⟨x, hx⟩ : ∃ x, l[j]? = some x := ⟨_, List.getElem?_eq_getElem (by have h1 := HL.out.2.2.2.2.1; have := HMM.out; omega)⟩
              obtain ⟨y, hy⟩ : ∃ y, l[j + 1]? = some y := ⟨_, List.getElem?_eq_getElem (by have h1 := HL.out.2.2.2.2.1; have := HMM.out; omega)⟩
              obtain ⟨hnorm, hdg, -⟩ := HL.out
              have hlt := less_of (norm_lt hnorm hx hy)
              obtain ⟨b, o, hAb, hltb, -, -, hr1⟩ := hdg.at (show (l.map (·.val))[j]? = some x.val by rw [List.getElem?_map, hx]; rfl)
              obtain ⟨b', o', hAb', -, -, -, hr2⟩ := hdg.at (show (l.map (·.val))[j + 1]? = some y.val by rw [List.getElem?_map, hy]; rfl)
              rw [hAb] at hAb'
              cases hAb'
              have hcx := dg_conv x (W := wr.drew) (b := b) (o := o + j * 16) (fun t u hu => (HB3.out.cell (p := ⟨b, _, none⟩) hltb).trans (hr1 t u hu))
              have hcy := dg_conv y (W := wr.drew) (b := b) (o := o + (j + 1) * 16) (fun t u hu => (HB3.out.cell (p := ⟨b, _, none⟩) hltb).trans (hr2 t u hu))
              obtain ⟨sx, hsx⟩ : ∃ t, dgS x = t := ⟨_, rfl⟩
              obtain ⟨sy, hsy⟩ : ∃ t, dgS y = t := ⟨_, rfl⟩
              rw [hsx] at hcx hlt
              rw [hsy] at hcy hlt
              obtain ⟨i1, i2, i3, i4, j1, j2, j3, j4, w3, -⟩ := ix_facts (show j + 1 < m by have := HMM.out; omega) HMM.out.2
              subst hAb
              clear hx hy hnorm hdg hltb hr1 hr2 hsx hsy
              go_upto_region 19 with fail
              go_region_held3 (fun W' => W' = wr.drew) (first | assumption | rfl) (fail)
              clear i1 i2 i3 i4 j1 j2 j3 j4 hi
              go_wp2_with fail
              go_roundg g
              case measure => omega
              case rel => exact ⟨j + 1, by omega, by first | rfl | go_num, Lib.hid (Below.drew HB3.out)⟩
            | zero =>
              obtain rfl : j = m' := by omega
              have hi : ¬ ((j : Int) + 1 < m) := by have := HMM.out; omega
              go_upto_region 21 with fail
              obtain ⟨w8, hw8⟩ : ∃ X, X = wr := ⟨_, rfl⟩
              subst hw8
              have hb8e : ∀ w, Sem.run Tryz.prog (Instr.build 39 #[(0, .int .u8 8), (1, .int .u8 e)]) w = .ok (.agg (b8 (erlG e).val).toArray) w := fun w => by rw [erlG_val HE.out]; exact build_d2 8 e w
              have hb7 : ∀ w, Sem.run Tryz.prog (Instr.build 39 #[(0, .int .u8 7)]) w = .ok (.agg (b8 sevG.val).toArray) w := fun w => build_d1 7 w
              have hbm := fun w => build_move s (erlG e).property.1 sevG.property.1 w
              have hbs := fun w => build_moves1 s (erlG e).property.1 sevG.property.1 w
              obtain ⟨mvE, hmE⟩ : ∃ x, (Value.int .i64 s :: (b8 (erlG e).val ++ b8 sevG.val)).toArray = x := ⟨_, rfl⟩
              obtain ⟨ev, hev⟩ : ∃ x, (b8 (erlG e).val).toArray = x := ⟨_, rfl⟩
              obtain ⟨sv, hsv⟩ : ∃ x, (b8 sevG.val).toArray = x := ⟨_, rfl⟩
              rw [hmE] at hbm hbs
              rw [hev] at hbm hb8e
              rw [hsv] at hbm hb7
              obtain ⟨W9, hW9⟩ : ∃ X, w8.alloc (.cells mvE 55) = X := ⟨_, rfl⟩
              have hbs' := hbs w8
              rw [hW9] at hbs'
              have hown : W9.ownsRow w8.heap.size 55 33 (.slice (some ⟨w8.heap.size, 0, none⟩) 1 1) 1 (mvl (s, erlG e, sevG)) := by
                have := World.ownsRow_lit (base := w8.heap.size) (e := 55) (size := 33) w8 mvE 1 (Nat.le_refl _) (by decide) (by rw [← hmE]; exact mvl_len (s, erlG e, sevG))
                rw [hW9, ← hmE] at this
                exact this
              have b89 : Below w8.heap.size w8 W9 := by rw [← hW9]; exact Below.new _
              have bo8 : Below wo.heap.size wo w8 := HL.out.2.2.1.trans (HB3.out.mono HL.out.2.2.1.size)
              have bo9 : Below wo.heap.size wo W9 := bo8.trans (b89.mono bo8.size)
              have hsrc := srcs_below HM9.out.2.1 bo9 (mvs_len s r k)
              have HO9 := Lib.hid (And.intro hown (And.intro hsrc (And.intro b89 (And.intro bo8 (show 1 + k ≤ maxLen ∧ (1 + k) * 40 ≤ 140737488355328 from one_lim (by have := HN.out; omega))))))
              clear hown hsrc b89 bo8 bo9 hmE hev hsv hW9 hbs hi
              refine wp_region_list ?_
              refine wpList_step (fun K hK => ?_)
              go_simp
              refine hK _ _ ?_
              clear hK K
              try simp only [Act.put, List.setIfInBounds_toArray, List.set_cons_zero, List.set_cons_succ]
              refine wpList_step (fun K hK => ?_)
              go_simp
              refine hK _ _ ?_
              clear hK K
              try simp only [Act.put, List.setIfInBounds_toArray, List.set_cons_zero, List.set_cons_succ]
              refine wpList_step (fun K hK => ?_)
              refine step_val rfl (exec_build2 rfl rfl rfl (hb8e w8)) ?_
              refine hK _ _ ?_
              clear hK K
              try simp only [Act.put, List.setIfInBounds_toArray, List.set_cons_zero, List.set_cons_succ]
              refine wpList_step (fun K hK => ?_)
              refine step_val rfl (exec_build1 rfl rfl (hb7 w8)) ?_
              refine hK _ _ ?_
              clear hK K
              try simp only [Act.put, List.setIfInBounds_toArray, List.set_cons_zero, List.set_cons_succ]
              refine wpList_step (fun K hK => ?_)
              refine step_val rfl (exec_build3 rfl rfl rfl rfl (hbm w8)) ?_
              refine hK _ _ ?_
              clear hK K
              try simp only [Act.put, List.setIfInBounds_toArray, List.set_cons_zero, List.set_cons_succ]
              refine wpList_step (fun K hK => ?_)
              refine step_val rfl (exec_slice1 rfl rfl (hbs')) ?_
              refine hK _ _ ?_
              clear hK K
              try simp only [Act.put, List.setIfInBounds_toArray, List.set_cons_zero, List.set_cons_succ]
              go_upto_region 22 with fail
              clear hb8e hb7 hbm hbs'
              refine wp_region_list ?_
              refine wpList_step (fun K hK => ?_)
              go_simp
              refine hK _ _ ?_
              clear hK K
              try simp only [Act.put, List.setIfInBounds_toArray, List.set_cons_zero, List.set_cons_succ]
              refine wpList_step (fun K hK => ?_)
              go_simp
              refine hK _ _ ?_
              clear hK K
              try simp only [Act.put, List.setIfInBounds_toArray, List.set_cons_zero, List.set_cons_succ]
              refine wpList_step (fun K hK => ?_)
              go_simp
              refine hK _ _ ?_
              clear hK K
              try simp only [Act.put, List.setIfInBounds_toArray, List.set_cons_zero, List.set_cons_succ]
              refine wpList_append_any _ rfl (.tmp 98) (.tmp 99) 26 rfl w8.heap.size 55 i0 _ 33 40 Tryz.underlying26 HI.out.1 HI.out.2.1 HI.out.2.2.1 HI.out.2.2.2.1 HI.out.2.2.2.2 (by decide) (.slice (some ⟨w8.heap.size, 0, none⟩) 1 1) 1 (mvl (s, erlG e, sevG)) rfl HO9.out.1 A9 k c9 (mvFlat (mvs s r k)) rfl (by rw [mvFlat_len, mvs_len]) HO9.out.2.1 (mvFlat_one _) HO9.out.2.2.2.2.1 HO9.out.2.2.2.2.2 HO9.out.2.2.1.size ?_
              intro v14 W10 hown10 hb10
              try simp only [Act.put, List.setIfInBounds_toArray, List.set_cons_zero, List.set_cons_succ]
              have hom10 : OM W10 w8.heap.size v14 ((s, erlG e, sevG) :: mvs s r k) := by
                unfold OM
                rw [mvFlat_cons, List.length_cons, mvs_len, Nat.add_comm]
                exact hown10
              obtain ⟨A14, c14, rfl, hmv14, -⟩ := hom10.form
              rw [List.length_cons, mvs_len] at ⊢
              have b810 : Below w8.heap.size w8 W10 := HO9.out.2.2.1.trans hb10
              have b68 := HB3.out
              have b610 : Below W6.heap.size W6 W10 := b68.trans (b810.mono b68.size)
              have b310 : Below W3.heap.size W3 W10 := HL.out.2.2.2.1.trans (b610.mono HL.out.2.2.2.1.size)
              have HHO2 := Lib.hid (show Calls Tryz.prog 15 #[.slice (some ⟨W2.heap.size, 0, none⟩) 1 1, .slice A14 (k + 1) c14, .int .i64 s] W10 (HoldSay W10 (accAll s d0 (mvs s r k))) from by
                have := ho_some s d0 _ rfl HR1.out ((s, erlG e, sevG) :: mvs s r k) W2.heap.size 1 c14 A14 W10 (HK.out W10 b310).2.1 hmv14 (by rw [List.length_cons, mvs_len]; have := HN.out; omega)
                rw [accTo_all, List.length_cons, mvs_len, ← HD0.out, acc_first, HD0.out] at this
                exact this)
              have HB10 := Lib.hid (And.intro b610 b310)
              clear hown10 hb10 hom10 hmv14 b810 b68 b610 b310
              go_upto_region 23 with (go_at_call 15; refine HHO2.out.mono ?_; rintro e W11 ⟨v15, l2, rfl, hn2, hdg2, hb11⟩)
              obtain rfl : l2 = l := hn2.uniq HL.out.1
              have b611 : Below W6.heap.size W6 W11 := HB10.out.1.trans (hb11.mono HB10.out.1.size)
              have b311 : Below W3.heap.size W3 W11 := HB10.out.2.trans (hb11.mono HB10.out.2.size)
              have bo11 : Below wo.heap.size wo W11 := HL.out.2.2.1.trans (b611.mono HL.out.2.2.1.size)
              have HDI := Lib.hid (ref_digs v15 (.slice A6 m c6) _ _ W11 hdg2 (by
                have := RDigs.mono (RDigs.below HL.out.2.1 b611) b611.size
                rw [HL.out.2.2.2.2.1] at this
                exact this))
              rw [show decide (l2.map (·.val) = l2.map (·.val)) = true by simp] at HDI
              have HHN := Lib.hid (show ∀ q, Calls Tryz.prog 15 #[.slice (some ⟨W2.heap.size, 0, none⟩) 1 1, .slice A9 k c9, .int .i64 (wrap64 (s + 1))] (W11.drewN q) fun e w' => e = .returned (.slice none 0 0) ∧ Below (W11.drewN q).heap.size (W11.drewN q) w' from fun q => by
                have := ho_none s (wrap64 (s + 1)) d0 _ rfl HR1.out (mvs s r k) W2.heap.size 1 c9 A9 (W11.drewN q) (HK.out _ (below_drewN b311 q)).2.1 (HM9.out.1.below (below_drewN bo11 q)) (by rw [mvs_len]; have := HN.out; omega) (sec_ne HS.out) (fun m hm => by rw [mvs_sec hm]; exact sec_ne HS.out)
                rw [mvs_len] at this
                exact this)
              have HB11 := Lib.hid b311
              obtain ⟨A15, n15, c15, hv15⟩ : ∃ A n c, v15 = .slice A n c := by obtain ⟨A, c, h, -⟩ := hdg2.form; exact ⟨_, _, _, h⟩
              subst hv15
              clear hn2 hdg2 hb11 b611 b311 bo11
              go_wp2_with (first
                | (go_at_call 17; refine HDI.out.mono ?_; rintro e W12 ⟨rfl, q12, rfl⟩)
                | (go_at_call 15; refine (HHN.out q12).mono ?_; rintro e W13 ⟨rfl, hb13⟩))
              rw [← HSS.out]
              have x12 := (HK.out _ (below_drewN HB11.out q12)).1
              exact ⟨rfl, x12.trans (hb13.mono x12.size)⟩
    | succ g =>
      have hi : (k : Int) + 1 < n := by have := HN.out; omega
      go_upto_region 9 with fail
      obtain ⟨hom, hbw⟩ := HO.out
      have hkn : k < n ∧ k + 1 < n ∧ k < 20 := by have := HN.out; omega
      have i1 : wrap64 ((k : Int) + 1 - 1) = (k : Int) := by unfold wrap64; omega
      have i2 : wrap64 (k : Int) = (k : Int) := by unfold wrap64; omega
      have i3 : IntKind.i64.wrap ((k : Int) + 1 - 1) = (k : Int) := by rw [raw_wrap]; exact i1
      have i4 : IntKind.i64.wrap (k : Int) = (k : Int) := by rw [raw_wrap]; exact i2
      have j1 : (k : Int) < n := by omega
      have j2 : 0 ≤ (k : Int) := by omega
      have j3 : 0 ≤ (k : Int) + 1 := by omega
      have j4 : ((k : Int) + 1).toNat = k + 1 := by omega
      have w3 : wrap64 ((k : Int) + 1 + 1) = (k : Int) + 1 + 1 := by unfold wrap64; omega
      have HC := Lib.hid (show ∀ V, Below W3.heap.size W3 V → Below W3.heap.size W3 V ∧ V.cell? ⟨rb, ro + k, none⟩ = some (.int .u8 (bt r k : Nat)) ∧ V.cell? ⟨rb, ro + (k + 1), none⟩ = some (.int .u8 (bt r (k + 1) : Nat)) from fun V hV => ⟨hV, (HK.out V hV).2.2 k hkn.1, (HK.out V hV).2.2 (k + 1) hkn.2.1⟩)
      have HDA := Lib.hid (fun W => lw_device (bt r k) W)
      have HDB := Lib.hid (fun W => lw_device (bt r (k + 1)) W)
      rw [← devG_val (HX.out k hkn.1)] at HDA
      rw [← devG_val (HX.out (k + 1) hkn.2.1)] at HDB
      have hnext := mvs_next s r k
      obtain ⟨da, hda⟩ : ∃ d, devG (bt r k) = d := ⟨_, rfl⟩
      obtain ⟨db, hdb⟩ : ∃ d, devG (bt r (k + 1)) = d := ⟨_, rfl⟩
      rw [hda] at HDA
      rw [hdb] at HDB
      rw [hda, hdb] at hnext
      have hbm := fun w => build_move s da.property.1 db.property.1 w
      have hbs := fun w => build_moves1 s da.property.1 db.property.1 w
      obtain ⟨mvv, hmv⟩ : ∃ x, (Value.int .i64 s :: (b8 da.val ++ b8 db.val)).toArray = x := ⟨_, rfl⟩
      obtain ⟨av, hav⟩ : ∃ x, (b8 da.val).toArray = x := ⟨_, rfl⟩
      obtain ⟨bv, hbv⟩ : ∃ x, (b8 db.val).toArray = x := ⟨_, rfl⟩
      rw [hmv] at hbm hbs
      rw [hav] at hbm HDA
      rw [hbv] at hbm HDB
      have HM := Lib.hid (And.intro hbm (And.intro hbs (And.intro hmv (And.intro hnext (And.intro hom hbw)))))
      have HLIM := Lib.hid (mv_lim s r hkn.2.2)
      clear hda hdb hmv hav hbv hbm hbs hnext hom hbw hkn
      refine wp_region_noPanic ?_
      refine wp_region_held_drew (S := (fun w' => Below W3.heap.size W3 w' ∧ w'.cell? ⟨rb, ro + k, none⟩ = some (.int .u8 (bt r k : Nat)) ∧ w'.cell? ⟨rb, ro + (k + 1), none⟩ = some (.int .u8 (bt r (k + 1) : Nat)))) (by kernel_rfl) (HC.out _ HM.out.2.2.2.2.2.drew) (fun hHeld => ?_)
      refine wpAnyH_take (i := 0) (v := ?_) rfl (by kernel_rfl) (by kernel_rfl) (by kernel_rfl) (fun _ _ _ h => h) (Or.inl ⟨by rfl, ?_⟩) (by assumption) ?_
      rotate_left
      · intro w hSw
        (try dsimp only at hSw)
        go_split_ands
        go_simp
        try with_reducible rfl
      try simp only [Act.put, List.setIfInBounds_toArray]
      refine wpAnyH_take (i := 1) (v := ?_) rfl (by kernel_rfl) (by kernel_rfl) (by kernel_rfl) (fun _ _ _ h => h) (Or.inl ⟨by rfl, ?_⟩) (by assumption) ?_
      rotate_left
      · intro w hSw
        (try dsimp only at hSw)
        go_split_ands
        go_simp
        try with_reducible rfl
      try simp only [Act.put]
      refine wpAnyH_take (i := 2) (v := ?_) rfl (by kernel_rfl) (by kernel_rfl) (by kernel_rfl) (fun _ _ _ h => h) (Or.inl ⟨by rfl, ?_⟩) (by assumption) ?_
      rotate_left
      · intro w hSw
        (try dsimp only at hSw)
        go_split_ands
        go_simp
        try with_reducible rfl
      try simp only [Act.put]
      refine wpAnyH_take (i := 3) (v := ?_) rfl (by kernel_rfl) (by kernel_rfl) (by kernel_rfl) (fun _ _ _ h => h) (Or.inl ⟨by rfl, ?_⟩) (by assumption) ?_
      rotate_left
      · intro w hSw
        (try dsimp only at hSw)
        go_split_ands
        go_simp
        try with_reducible rfl
      try simp only [Act.put]
      refine wpAnyH_take (i := 4) (v := ?_) rfl (by kernel_rfl) (by kernel_rfl) (by kernel_rfl) (fun _ _ _ h => h) (Or.inl ⟨by rfl, ?_⟩) (by assumption) ?_
      rotate_left
      · intro w hSw
        (try dsimp only at hSw)
        go_split_ands
        go_simp
        try with_reducible rfl
      try simp only [Act.put]
      refine wpAnyH_take (i := 5) (v := ?_) rfl (by kernel_rfl) (by kernel_rfl) (by kernel_rfl) (fun _ _ _ h => h) (Or.inl ⟨by rfl, ?_⟩) (by assumption) ?_
      rotate_left
      · intro w hSw
        (try dsimp only at hSw)
        go_split_ands
        go_simp
        try with_reducible rfl
      try simp only [Act.put]
      refine wpAnyH_take (i := 6) (v := ?_) rfl (by kernel_rfl) (by kernel_rfl) (by kernel_rfl) (fun _ _ _ h => h) (Or.inl ⟨by rfl, ?_⟩) (by assumption) ?_
      rotate_left
      · intro w hSw
        (try dsimp only at hSw)
        go_split_ands
        go_simp
        try with_reducible rfl
      try simp only [Act.put]
      refine wpAnyH_take (i := 8) (v := ?_) rfl (by kernel_rfl) (by kernel_rfl) (by kernel_rfl) (fun _ _ _ h => h) (Or.inl ⟨by rfl, ?_⟩) (by assumption) ?_
      rotate_left
      · intro w hSw
        (try dsimp only at hSw)
        go_split_ands
        go_simp
        try with_reducible rfl
      try simp only [Act.put]
      refine wpAnyH_take (i := 9) (v := ?_) rfl (by kernel_rfl) (by kernel_rfl) (by kernel_rfl) (fun _ _ _ h => h) (Or.inl ⟨by rfl, ?_⟩) (by assumption) ?_
      rotate_left
      · intro w hSw
        (try dsimp only at hSw)
        go_split_ands
        go_simp
        try with_reducible rfl
      try simp only [Act.put]
      refine wpAnyH_take (i := 10) (v := ?_) rfl (by kernel_rfl) (by kernel_rfl) (by kernel_rfl) (fun _ _ _ h => h) (Or.inl ⟨by rfl, ?_⟩) (by assumption) ?_
      rotate_left
      · intro w hSw
        (try dsimp only at hSw)
        go_split_ands
        go_simp
        try with_reducible rfl
      try simp only [Act.put]
      refine wpAnyH_take (i := 11) (v := ?_) rfl (by kernel_rfl) (by kernel_rfl) (by kernel_rfl) (fun _ _ _ h => h) (Or.inl ⟨by rfl, ?_⟩) (by assumption) ?_
      rotate_left
      · intro w hSw
        (try dsimp only at hSw)
        go_split_ands
        go_simp
        try with_reducible rfl
      try simp only [Act.put]
      refine wpAnyH_ready (rs := [7]) (by kernel_rfl) (by simp) ?_
      refine AllReadyH.cons rfl (fun K hK => ?_) AllReadyH.nil
      go_simp
      refine (HDA.out _).mono ?_
      rintro e Y1 ⟨rfl, hy1⟩
      have u1 : Below wr.heap.size wr Y1 := (Below.refl _ _).drew.trans hy1
      have b1 : Below W3.heap.size W3 Y1 := HM.out.2.2.2.2.2.trans (u1.mono HM.out.2.2.2.2.2.size)
      refine hK.out _ _ (HC.out _ b1) (fun hHeld => ?_)
      clear hK K hHeld
      try simp only [Act.put, List.setIfInBounds_toArray, List.set_cons_zero, List.set_cons_succ]
      refine wpAnyH_ready (rs := [12]) (by kernel_rfl) (by simp) ?_
      refine AllReadyH.cons rfl (fun K hK => ?_) AllReadyH.nil
      go_simp
      refine (HDB.out _).mono ?_
      rintro e Y2 ⟨rfl, hy2⟩
      have u2 : Below wr.heap.size wr Y2 := u1.trans (hy2.mono u1.size)
      have b2 : Below W3.heap.size W3 Y2 := HM.out.2.2.2.2.2.trans (u2.mono HM.out.2.2.2.2.2.size)
      refine hK.out _ _ (HC.out _ b2) (fun hHeld => ?_)
      clear hK K hHeld
      try simp only [Act.put, List.setIfInBounds_toArray, List.set_cons_zero, List.set_cons_succ]
      refine wpAnyH_ready (rs := [13]) (by kernel_rfl) (by simp) ?_
      refine AllReadyH.cons rfl (fun K hK => ?_) AllReadyH.nil
      refine step_val rfl (exec_build3 rfl rfl rfl rfl (HM.out.1 Y2)) ?_
      refine hK.out _ _ (HC.out _ b2) (fun hHeld => ?_)
      clear hK K hHeld
      try simp only [Act.put, List.setIfInBounds_toArray]
      refine wpAnyH_ready (rs := [14]) (by kernel_rfl) (by simp) ?_
      refine AllReadyH.cons rfl (fun K hK => ?_) AllReadyH.nil
      refine step_val rfl (exec_slice1 rfl rfl (HM.out.2.1 Y2)) ?_
      have u3 : Below wr.heap.size wr (Y2.alloc (.cells mvv 55)) := u2.alloc u2.size _
      have b3 : Below W3.heap.size W3 (Y2.alloc (.cells mvv 55)) := b2.alloc b2.size _
      refine hK.out _ _ (HC.out _ b3) (fun hHeld => ?_)
      clear hK K hHeld
      try simp only [Act.put]
      have hown := HM.out.2.2.2.2.1.below u3
      refine wpAnyH_ready (rs := [15]) (by kernel_rfl) (by simp) ?_
      refine AllReadyH.cons rfl (fun K hK => ?_) AllReadyH.nil
      refine step_wp rfl ?_
      refine wp_append_own _ (.tmp 39) (.tmp 53) 26 rfl W3.heap.size 55 i0 _ 33 40 Tryz.underlying26 HI.out.1 HI.out.2.1 HI.out.2.2.1 HI.out.2.2.2.1 HI.out.2.2.2.2 (by decide) v9 (mvs s r k).length (mvFlat (mvs s r k)) rfl hown ⟨Y2.heap.size, 0, none⟩ 1 1 (mvl (s, da, db)) rfl (mvl_len _) (fun j u hu => by rw [Addr.add_mid]; exact range_block (heap_alloc_new _ _) j u (by rw [← HM.out.2.2.1]; exact hu)) (mvl_one _) HLIM.out.1 HLIM.out.2 b3.size ?_
      intro v10 W6 hown6 hgr6 _
      have b6 : Below W3.heap.size W3 W6 := b3.trans (grown_below hgr6 hown b3.size)
      have H6 := Lib.hid (show OM W6 W3.heap.size v10 (mvs s r (k + 1)) ∧ Below W3.heap.size W3 W6 from ⟨by rw [HM.out.2.2.2.1]; unfold OM; rw [mvFlat_snoc, List.length_append]; exact hown6, b6⟩)
      refine hK.out _ _ (HC.out _ b6) (fun hHeld => ?_)
      clear hK K hHeld
      try simp only [Act.put]
      refine wpAnyH_ready (rs := [16]) (by kernel_rfl) (by simp) ?_
      refine AllReadyH.cons rfl (fun K hK => ?_) AllReadyH.nil
      go_simp
      refine hK.out _ _ (HC.out _ b6) (fun hHeld => ?_)
      clear hK K hHeld
      try simp only [Act.put, List.setIfInBounds_toArray, List.set_cons_zero, List.set_cons_succ]
      refine wpAnyH_done (by kernel_rfl) ?_ _
      refine NoPanic.normal ?_
      clear hown hown6 hgr6 b6 b3 b2 b1 u1 u2 u3 hy1 hy2 i1 i2 i3 i4 j1 j2 j3 j4 hi hp1 hp1n h20 h0
      go_wp2_with fail
      go_roundg g
      case measure => omega
      case rel => exact ⟨k + 1, v10, by omega, by first | rfl | go_num, rfl, H6⟩
end Go.Proofs.YtdeccekeknlnoaaGreatDoor
