/- Chapter 38, plain: the order of digests; what a sorted and compacted row of digests is. No program in sight. | Chapter 38: package reach: digests compared. -/
import Derived.Test.YtdeccekeknlnoaaGreatDoorJPoPl
import Derived.Test.YtdeccekeknlnoaaGreatDoorJDiD
import Derived.Lib.SlicesCompact
import Derived.Shelf.SlSortCmp.InsertionK
import Derived.Lib.Bytealg
namespace Go.Proofs.YtdeccekeknlnoaaGreatDoor
open Go.Lib Go.Sort
/-- the order of two byte strings, as a number -/
def lexD : List Nat → List Nat → Int
  | [], [] => 0
  | [], _ :: _ => -1
  | _ :: _, [] => 1
  | a :: x, b :: y => if a < b then -1 else if b < a then 1 else lexD x y
theorem lexD_cases : ∀ x y, lexD x y = -1 ∨ lexD x y = 0 ∨ lexD x y = 1
  | [], [] => by simp [lexD]
  | [], _ :: _ => by simp [lexD]
  | _ :: _, [] => by simp [lexD]
  | a :: x, b :: y => by
    unfold lexD
    split
    · simp
    · split
      · simp
      · exact lexD_cases x y
theorem lexD_eq : ∀ {x y}, lexD x y = 0 → x = y
  | [], [], _ => rfl
  | [], _ :: _, h => by simp [lexD] at h
  | _ :: _, [], h => by simp [lexD] at h
  | a :: x, b :: y, h => by
    unfold lexD at h
    split at h
    · simp at h
    · split at h
      · simp at h
      · rw [lexD_eq h, show a = b by omega]
theorem lexD_self : ∀ x, lexD x x = 0
  | [] => rfl
  | a :: x => by simp [lexD, lexD_self x]
theorem lexD_neg : ∀ x y, lexD y x = - lexD x y
  | [], [] => by simp [lexD]
  | [], _ :: _ => by simp [lexD]
  | _ :: _, [] => by simp [lexD]
  | a :: x, b :: y => by
    unfold lexD
    rcases Nat.lt_trichotomy a b with h | h | h
    · simp [h, show ¬ b < a by omega]
    · subst h
      simp [lexD_neg x y]
    · simp [h, show ¬ a < b by omega]
theorem lexD_trans : ∀ {x y z}, lexD x y < 0 → lexD y z < 0 → lexD x z < 0
  | [], [], _, h, _ => by simp [lexD] at h
  | [], _ :: _, [], _, g => by simp [lexD] at g
  | [], _ :: _, _ :: _, _, _ => by simp [lexD]
  | _ :: _, [], _, h, _ => by simp [lexD] at h
  | _ :: _, _ :: _, [], _, g => by simp [lexD] at g
  | a :: x, b :: y, c :: z, h, g => by
    unfold lexD at h g ⊢
    rcases Nat.lt_trichotomy a b with h1 | h1 | h1
    · rcases Nat.lt_trichotomy b c with h2 | h2 | h2
      · rw [if_pos (by omega)]; decide
      · rw [if_pos (by omega)]; decide
      · rw [if_neg (by omega), if_pos h2] at g; exact absurd g (by decide)
    · subst h1
      rcases Nat.lt_trichotomy a c with h2 | h2 | h2
      · rw [if_pos (by omega)]; decide
      · subst h2
        simp only [Nat.lt_irrefl, if_false] at h g ⊢
        exact lexD_trans h g
      · rw [if_neg (by omega), if_pos h2] at g; exact absurd g (by decide)
    · rw [if_neg (by omega), if_pos h1] at h; exact absurd h (by decide)
/-- a digest: 16 bytes -/
abbrev Dg := { d : List Nat // d.length = 16 ∧ ∀ x ∈ d, x < 256 }
instance : Inhabited Dg := ⟨⟨List.replicate 16 0, by simp⟩⟩
def cmpD (x y : Dg) : Int := lexD x.val y.val
def ltD (x y : Dg) : Prop := cmpD x y < 0
theorem ltD_irr (x : Dg) : ¬ ltD x x := by unfold ltD cmpD; rw [lexD_self]; decide
theorem ltD_trans {x y z : Dg} (h : ltD x y) (g : ltD y z) : ltD x z := lexD_trans h g
theorem ltD_tri {x y : Dg} (h : ¬ ltD x y) (g : x ≠ y) : ltD y x := by
  unfold ltD cmpD at *
  rw [lexD_neg]
  rcases lexD_cases x.val y.val with e | e | e
  · rw [e] at h; exact absurd (by decide) h
  · exact absurd (Subtype.ext (lexD_eq e)) g
  · rw [e]; decide
theorem ltD_asym {x y : Dg} (h : ltD x y) : ¬ ltD y x := fun g => ltD_irr x (ltD_trans h g)
/-- what Compact leaves of a sorted row of digests is strictly increasing -/
theorem dcomp_incr {d : Array Dg} (hs : ∀ i j, i < j → j < d.size → ¬ ltD d[j]! d[i]!) : ∀ m, m ≤ d.size → (compactUpTo d m).Pairwise ltD ∧ ∀ z ∈ compactUpTo d m, 0 < m ∧ ¬ ltD d[m - 1]! z
  | 0, _ => by simp [compactUpTo]
  | m + 1, hm => by
    obtain ⟨I1, I2⟩ := dcomp_incr hs m (by omega)
    rw [compactUpTo_succ]
    have step : ∀ z, z ∈ compactUpTo d m → ¬ ltD d[m]! z := fun z hz => by
      obtain ⟨h0, h1⟩ := I2 z hz
      have h2 := hs (m - 1) m (by omega) (by omega)
      intro h3
      by_cases e : d[m]! = d[m - 1]!
      · rw [e] at h3; exact h1 h3
      · exact h1 (ltD_trans (ltD_tri h2 e) h3)
    by_cases hk : keeps d m = true
    · rw [if_pos hk]
      refine ⟨List.pairwise_append.2 ⟨I1, by simp, fun z hz y hy => ?_⟩, fun z hz => ⟨by omega, ?_⟩⟩
      · simp only [List.mem_singleton] at hy
        subst hy
        obtain ⟨h0, h1⟩ := I2 z hz
        have h2 := hs (m - 1) m (by omega) (by omega)
        have h3 : d[m]! ≠ d[m - 1]! := by
          simp only [keeps, decide_eq_true_eq] at hk
          rcases hk with h | h
          · omega
          · exact h
        by_cases e : z = d[m - 1]!
        · subst e; exact ltD_tri h2 h3
        · exact ltD_trans (ltD_tri h1 (Ne.symm e)) (ltD_tri h2 h3)
      · rw [Nat.add_sub_cancel]
        rcases List.mem_append.1 hz with h | h
        · exact step z h
        · simp only [List.mem_singleton] at h
          subst h
          exact ltD_irr _
    · rw [if_neg hk, List.append_nil]
      exact ⟨I1, fun z hz => ⟨by omega, by rw [Nat.add_sub_cancel]; exact step z hz⟩⟩
theorem dcomp_mem {d : Array Dg} : ∀ m, m ≤ d.size → ∀ z, z ∈ compactUpTo d m ↔ ∃ j, j < m ∧ d[j]! = z
  | 0, _, z => by simp [compactUpTo]
  | m + 1, hm, z => by
    have I := dcomp_mem m (by omega) (d := d)
    rw [compactUpTo_succ]
    constructor
    · intro h
      rcases List.mem_append.1 h with h | h
      · obtain ⟨j, hj, e⟩ := (I z).1 h
        exact ⟨j, by omega, e⟩
      · split at h
        · simp only [List.mem_singleton] at h
          exact ⟨m, by omega, h.symm⟩
        · simp at h
    · rintro ⟨j, hj, rfl⟩
      by_cases e : j = m
      · subst e
        by_cases hk : keeps d j = true
        · rw [if_pos hk]; simp
        · rw [if_neg hk, List.append_nil]
          simp only [keeps, decide_eq_true_eq] at hk
          have hk' : ¬ j = 0 ∧ d[j]! = d[j - 1]! := by
            constructor
            · exact fun h => hk (.inl h)
            · exact Classical.byContradiction fun h => hk (.inr h)
          rw [hk'.2]
          exact (I _).2 ⟨j - 1, by omega, rfl⟩
      · exact List.mem_append_left _ ((I _).2 ⟨j, by omega, rfl⟩)
/-- the row of holders: increasing, with these members -/
structure Norm (o l : List Dg) : Prop where
  inc : l.Pairwise ltD
  mem : ∀ x, x ∈ l ↔ x ∈ o
theorem norm_uniq : ∀ {l l' : List Dg}, l.Pairwise ltD → l'.Pairwise ltD → (∀ x, x ∈ l ↔ x ∈ l') → l = l'
  | [], [], _, _, _ => rfl
  | [], b :: y, _, _, h => by have := (h b).2 (by simp); simp at this
  | a :: x, [], _, _, h => by have := (h a).1 (by simp); simp at this
  | a :: x, b :: y, h1, h2, h => by
    rw [List.pairwise_cons] at h1 h2
    have hab : a = b := by
      have ha := (h a).1 (by simp)
      have hb := (h b).2 (by simp)
      rcases List.mem_cons.1 ha with e | e
      · exact e
      · rcases List.mem_cons.1 hb with e' | e'
        · exact e'.symm
        · exact absurd (h1.1 b e') (ltD_asym (h2.1 a e))
    subst hab
    rw [norm_uniq h1.2 h2.2 fun z => ?_]
    constructor
    · intro hz
      rcases List.mem_cons.1 ((h z).1 (List.mem_cons_of_mem _ hz)) with e | e
      · subst e; exact absurd (h1.1 z hz) (ltD_irr z)
      · exact e
    · intro hz
      rcases List.mem_cons.1 ((h z).2 (List.mem_cons_of_mem _ hz)) with e | e
      · subst e; exact absurd (h2.1 z hz) (ltD_irr z)
      · exact e
theorem Norm.uniq {o l l' : List Dg} (h : Norm o l) (h' : Norm o l') : l = l' := norm_uniq h.inc h'.inc fun x => (h.mem x).trans (h'.mem x).symm
/-- sorted, compacted -/
theorem norm_of {o : List Dg} {d' : Array Dg} (hp : d'.toList.Perm o) (hs : ∀ i j, i < j → j < d'.size → ¬ ltD d'[j]! d'[i]!) : Norm o (compactUpTo d' d'.size) := by
  refine ⟨(dcomp_incr hs d'.size (Nat.le_refl _)).1, fun z => ?_⟩
  rw [dcomp_mem d'.size (Nat.le_refl _) z, ← hp.mem_iff]
  constructor
  · rintro ⟨j, hj, rfl⟩
    rw [getElem!_pos d' j hj]
    exact Array.mem_toList_iff.2 (Array.getElem_mem hj)
  · intro h
    obtain ⟨j, hj, e⟩ := List.getElem_of_mem h
    have hj' : j < d'.size := by simpa using hj
    refine ⟨j, hj', ?_⟩
    rw [getElem!_pos d' j hj']
    simpa using e
end Go.Proofs.YtdeccekeknlnoaaGreatDoor

namespace Go.Proofs.YtdeccekeknlnoaaGreatDoor
open Go.RowKit Go.Sort Go.Lib
theorem swo_dg : SWO (ltOf cmpD) := by
  have e : ∀ a b, ltOf cmpD a b = true ↔ ltD a b := fun a b => by unfold ltOf ltD; simp
  have e2 : ∀ a b, ltOf cmpD a b = false ↔ ¬ ltD a b := fun a b => by rw [← e]; simp
  refine ⟨fun x => ?_, fun x y z h g => ?_, fun x y z h g => ?_⟩
  · rw [e2]; exact ltD_irr x
  · rw [e] at *; exact ltD_trans h g
  · rw [e2] at *
    intro hxz
    by_cases hxy : x = y
    · subst hxy; exact g hxz
    · exact g (ltD_trans (ltD_tri h hxy) hxz)
theorem dlt_false {a b : Dg} (h : ltOf cmpD a b = false) : ¬ ltD a b := by
  unfold ltOf at h
  unfold ltD
  simpa using h
def dgB (d : List Nat) : List UInt8 := d.map fun (x : Nat) => x.toUInt8
theorem compare_lex : ∀ d e : List Nat, (∀ x ∈ d, x < 256) → (∀ x ∈ e, x < 256) → compareBytes (dgB d) (dgB e) = lexD d e
  | [], [], _, _ => rfl
  | [], _ :: _, _, _ => rfl
  | _ :: _, [], _, _ => rfl
  | a :: d, b :: e, hd, he => by
    have ha := hd a (by simp)
    have hb := he b (by simp)
    have I := compare_lex d e (fun x hx => hd x (by simp [hx])) (fun x hx => he x (by simp [hx]))
    have h1 : a.toUInt8 < b.toUInt8 ↔ a < b := by
      rw [UInt8.lt_iff_toNat_lt]; simp [Nat.mod_eq_of_lt ha, Nat.mod_eq_of_lt hb]
    have h2 : b.toUInt8 < a.toUInt8 ↔ b < a := by
      rw [UInt8.lt_iff_toNat_lt]; simp [Nat.mod_eq_of_lt ha, Nat.mod_eq_of_lt hb]
    unfold dgB at I ⊢
    simp only [List.map_cons, compareBytes, lexD, h1, h2, I]
theorem run_loadBytes {P : Program} {W : World} {b : Nat} : ∀ (d : List Nat) (o : Nat) (acc : List UInt8), (∀ x ∈ d, x < 256) → W.rangeAt b o (b8 d) →
    (Extern.Bytes.loadBytes ⟨b, o, none⟩ d.length ⟨acc.toArray⟩).run P W = .ok ⟨(acc ++ dgB d).toArray⟩ W
  | [], o, acc, _, _ => by simp [Extern.Bytes.loadBytes, dgB]
  | x :: d, o, acc, hd, h => by
    have hx := hd x (by simp)
    have h0 : W.cell? ⟨b, o, none⟩ = some (.int .u8 x) := h 0 (.int .u8 x) (by simp [b8])
    have I := run_loadBytes (P := P) d (o + 1) (acc ++ [x.toUInt8]) (fun y hy => hd y (by simp [hy])) (fun j u hu => by
      have := h (j + 1) u (by simpa [b8] using hu)
      rwa [show o + (j + 1) = o + 1 + j by omega] at this)
    have ea : (⟨b, o, none⟩ : Addr).add 1 = ⟨b, o + 1, none⟩ := rfl
    simp only [List.length_cons, Extern.Bytes.loadBytes, Sem.run_bind]
    rw [show Sem.run P (load ⟨b, o, none⟩) W = .ok (.int .u8 x) W by simp [load, Sem.run, h0]]
    simp only [Result.andThen_ok]
    rw [ea]
    have e1 : (ByteArray.mk acc.toArray).push (x : Int).toNat.toUInt8 = ⟨(acc ++ [x.toUInt8]).toArray⟩ := by simp [ByteArray.push]
    rw [e1, I]
    simp [dgB]
theorem run_cmpDg {P : Program} {W : World} {b1 b2 c1 c2 : Nat} (x y : Dg) (h1 : W.rangeAt b1 0 (b8 x.val)) (h2 : W.rangeAt b2 0 (b8 y.val)) :
    (Extern.BytealgCompare.compare #[.slice (some ⟨b1, 0, none⟩) 16 c1, .slice (some ⟨b2, 0, none⟩) 16 c2]).run P W = .ok (.int .i64 (cmpD x y)) W := by
  have l1 := run_loadBytes (P := P) x.val 0 [] x.property.2 h1
  have l2 := run_loadBytes (P := P) y.val 0 [] y.property.2 h2
  rw [x.property.1] at l1
  rw [y.property.1] at l2
  change Sem.run P (do pure (goInt (Extern.BytealgCompare.cmp (← Extern.Bytes.loadBytes ⟨b1, 0, none⟩ 16 ⟨[].toArray⟩) (← Extern.Bytes.loadBytes ⟨b2, 0, none⟩ 16 ⟨[].toArray⟩)))) W = _
  simp only [Sem.run_bind, l1, l2, Sem.run_pure, Result.andThen]
  rw [cmp_eq]
  simp only [List.nil_append]
  rw [compare_lex _ _ x.property.2 y.property.2]
  rfl
set_option maxRecDepth 1000000 in
set_option maxHeartbeats 600000 in
theorem bytes_compare {W : World} {b1 b2 c1 c2 : Nat} (x y : Dg) (h1 : W.rangeAt b1 0 (b8 x.val)) (h2 : W.rangeAt b2 0 (b8 y.val)) :
    Calls Tryz.prog 48 #[.slice (some ⟨b1, 0, none⟩) 16 c1, .slice (some ⟨b2, 0, none⟩) 16 c2] W fun e w' => e = .returned (.int .i64 (cmpD x y)) ∧ w' = W := by
  have H := Lib.hid (run_cmpDg (P := Tryz.prog) (c1 := c1) (c2 := c2) x y h1 h2)
  clear h1 h2
  go_enter Tryz.func48, Tryz.ntmps48
  go_wp2_with fail
  rw [run_callFunc_extern Tryz.func80 (by kernel_rfl) (by kernel_rfl) (by kernel_rfl) (e := Extern.BytealgCompare.compare) (by kernel_rfl), H.out]
  simp only [Result.andThen]
  rw [Oper.upon_value]
  go_wp2_with fail
  go_ret
  exact ⟨rfl, rfl⟩
def GrownTo (w w' : World) : Prop := ∃ q os', w' = grow (w.drewN q) os'
theorem two_grow (w : World) (a b : Obj) (q : Nat) : (((w.alloc a).alloc b).drewN q) = grow (w.drewN q) #[a, b] := by
  rw [alloc_eq_grow, alloc_eq_grow, grow_grow]; rfl
set_option maxRecDepth 1000000 in
set_option maxHeartbeats 600000 in
theorem ho_compare (x y : Dg) (w : World) :
    Calls Tryz.prog 33 #[.agg (b8 x.val).toArray, .agg (b8 y.val).toArray] w fun e w' => e = .returned (.int .i64 (cmpD x y)) ∧ GrownTo w w' := by
  obtain ⟨vx, hvx⟩ : ∃ v, (b8 x.val).toArray = v := ⟨_, rfl⟩
  obtain ⟨vy, hvy⟩ : ∃ v, (b8 y.val).toArray = v := ⟨_, rfl⟩
  obtain ⟨W, hW⟩ : ∃ W, (w.alloc (.cells vx 39)).alloc (.cells vy 39) = W := ⟨_, rfl⟩
  have h1 : W.rangeAt w.heap.size 0 (b8 x.val) := by
    rw [← hW]
    have := range_block (heap_alloc_new w (.cells vx 39))
    rw [show vx.toList = b8 x.val by rw [← hvx]] at this
    exact fun j u hu => al_cell _ (this j u hu)
  have h2 : W.rangeAt (w.heap.size + 1) 0 (b8 y.val) := by
    rw [← hW]
    have := heap_alloc_new (w.alloc (.cells vx 39)) (.cells vy 39)
    rw [World.size_alloc] at this
    have h := range_block this
    rwa [show vy.toList = b8 y.val by rw [← hvy]] at h
  have HC := Lib.hid (show Calls Tryz.prog 48 #[.slice (some ⟨w.heap.size, 0, none⟩) 16 16, .slice (some ⟨w.heap.size + 1, 0, none⟩) 16 16] W.drew fun e w' => e = .returned (.int .i64 (cmpD x y)) ∧ w' = W.drew from bytes_compare x y h1 h2)
  have HW := Lib.hid hW
  have HG := Lib.hid (two_grow w (.cells vx 39) (.cells vy 39) 1)
  rw [hvx, hvy]
  clear h1 h2 hvx hvy
  go_enter Tryz.func33, Tryz.ntmps33
  go_upto_region 1 with fail
  clear hW
  go_region_held3 (fun W' => W' = W.drew) (first | assumption | rfl) ((go_at_call 48; (with_reducible refine HC.out.mono ?_); rintro e w2 ⟨rfl, hw⟩; subst hw))
  all_goals (go_wp2_with fail; try go_ret)
  exact ⟨rfl, 1, #[_, _], by rw [← HW.out]; exact HG.out⟩
end Go.Proofs.YtdeccekeknlnoaaGreatDoor
