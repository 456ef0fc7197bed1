/- Chapter 38: package predict: the combinations of one event. | Chapter 38: package predict: the outer walk, the iterator. | Chapter 38: package predict: the iterator; slices.Collect over it. -/
import Derived.Test.YtdeccekeknlnoaaGreatDoorJCaA
import Derived.Stop.RegionWithIn
import Derived.Lib.SliceRun
namespace Go.Proofs.YtdeccekeknlnoaaGreatDoor
open Go.RowKit Go.Shelf
attribute [local go_sem] Oper.semAt_some
set_option maxRecDepth 1000000 in
set_option maxHeartbeats 600000 in
theorem pd_comb (A : Option Addr) (n c : Nat) (w : World) : Calls Tryz.prog 72 #[.slice A n c] w fun e w' => e = .returned (.func (.func 123) #[] #[.pointer (some ⟨w.heap.size, 0, none⟩)]) ∧ w' = w.alloc (.cells #[.slice A n c] 95) := by
  have hmf : ∀ (fn : Fn) (first cap : Array Value) (w : World), (Instr.makeFunc fn first cap).run Tryz.prog w = .ok (.func fn first cap) w := fun _ _ _ _ => rfl
  go_enter Tryz.func72, Tryz.ntmps72
  go_wp2_with fail
  go_ret
  exact ⟨rfl, rfl⟩
/-- one log of one event, in memory of its own -/
def LogAt (A : World) (x : Nat × Nat) (d : List Nat) (pb : Nat) : Prop := x.1 < A.heap.size ∧ A.rangeAt x.1 0 (evL d (.slice (some ⟨pb, 0, none⟩) 0 0))
def CloneSaid (d : List Nat) (pb : Nat) (w : World) (e : Ending) (w' : World) : Prop := ∃ x : Nat × Nat, e = .returned (.slice (some ⟨x.1, 0, none⟩) 1 x.2) ∧ LogAt w' x d pb ∧ Below w.heap.size w w'
set_option maxRecDepth 1000000 in
set_option maxHeartbeats 600000 in
theorem pd_clone (x : Nat × Nat) (d : List Nat) (hd : d.length = 16) (pb : Nat) (w : World) (h : LogAt w x d pb) : Calls Tryz.prog 125 #[.slice (some ⟨x.1, 0, none⟩) 1 x.2] w (CloneSaid d pb w) := by
  obtain ⟨g, c⟩ := x
  obtain ⟨S, hS⟩ : ∃ S, CloneSaid d pb w = S := ⟨_, rfl⟩
  rw [hS]
  have HSS := Lib.hid hS
  have hbs0 : ∀ w, Sem.run Tryz.prog (Instr.buildSlice 98 0 #[]) w = .ok (.slice (some ⟨w.heap.size, 0, none⟩) 0 0) (w.alloc (.cells #[] 93)) := fun w => by kernel_rfl
  have heq := Lib.run_eql_slice_nil (P := Tryz.prog) w 98 93 (some ⟨g, 0, none⟩) 1 c 0 0 Tryz.underlying98
  obtain ⟨ze, hie, hzz⟩ := info_event
  obtain ⟨i0, hi, hz0, hz1, hz2⟩ := info_parts hie
  have hlen : (evL d (.slice (some ⟨pb, 0, none⟩) 0 0)).length = 20 := by simp [evL, b8_len, hd]
  have hone : ∀ u ∈ evL d (.slice (some ⟨pb, 0, none⟩) 0 0), u.oneCell' = true := fun u hu => by
    simp only [evL, List.mem_append, List.mem_cons, List.mem_nil_iff, or_false] at hu
    rcases hu with hu | rfl | rfl | rfl | rfl
    · exact b8_one _ u hu
    all_goals rfl
  have hsrc : ∀ (j : Nat) (u : Value), (evL d (.slice (some ⟨pb, 0, none⟩) 0 0))[j]? = some u → (w.alloc (.cells #[] 93)).cell? ((⟨g, 0, none⟩ : Addr).add j) = some u := fun j u hu => by
    rw [Addr.add_mid]
    exact al_cell _ (h.2 j u hu)
  have HH := Lib.hid (And.intro hlen (And.intro hone hsrc))
  clear hS h hlen hone hsrc hie
  have hE : (w.alloc (.cells #[] 93)).ownsRow w.heap.size 93 20 (.slice (some ⟨w.heap.size, 0, none⟩) 0 0) 0 [] := World.ownsRow_made w #[] 0 (Nat.le_refl _) (by simp [maxLen]) rfl
  have HE := Lib.hid hE
  clear hE
  go_enter Tryz.func125, Tryz.ntmps125
  go_wp2_with (at_builtin; refine wpList_append_own _ rfl (.tmp 5) (.tmp 6) 98 rfl w.heap.size 93 i0 _ 20 96 Tryz.underlying98 hi hz0 hz1 hz2 hzz (by decide) (.slice (some ⟨w.heap.size, 0, none⟩) 0 0) 0 [] rfl HE.out ⟨g, 0, none⟩ 1 c (evL d (.slice (some ⟨pb, 0, none⟩) 0 0)) rfl HH.out.1 HH.out.2.2 HH.out.2.1 (by decide) (by decide) (by simp) ?_; intro v7 W7 hown7 hgr7 _; have H7 := Lib.hid (And.intro hown7 hgr7); clear hown7 hgr7)
  rw [← HSS.out]
  obtain ⟨hown, hgr⟩ := H7.out
  obtain ⟨g7, c7, hv, hlt⟩ := own_two (n := 0) hown
  subst hv
  have hR := own_range (n := 1) hown
  refine ⟨(g7, c7), rfl, ⟨hlt, hR⟩, (Below.new (w := w) (.cells #[] 93)).trans ?_⟩
  exact ⟨hgr.os, hgr.tape, hgr.output, hgr.size, fun k hk => hgr.block k (by simp; omega) (by intro e; simp [Value.ownBlock] at e; omega)⟩
set_option maxRecDepth 1000000 in
set_option maxHeartbeats 1000000 in
theorem pd_walk1 (l sb yb wb gs cs : Nat) (x : Nat × Nat) (d : List Nat) (hd : d.length = 16) (pb : Nat) (W : World) (R : (Nat × Nat) → World → World → Prop) (W0 : World)
    (hs : W.cell? ⟨sb, 0, none⟩ = some (.slice (some ⟨gs, 0, none⟩) 1 cs)) (hy : W.cell? ⟨yb, 0, none⟩ = some (.func (.yield l) #[] #[])) (hyl : yb < W.heap.size) (hx : LogAt W x d pb) (hW : Un W0 W)
    (hY : ∀ x A, Un W0 A ∧ LogAt A x d pb → YieldAt Fence.wide 1 Tryz.prog l #[.slice (some ⟨x.1, 0, none⟩) 1 x.2] A fun e B => e = .returned (.bool true) ∧ CaKp W0 A B ∧ R x A B) :
    CallsIn Fence.wide 2 Tryz.prog 124 #[.slice (some ⟨x.1, 0, none⟩) 1 x.2, .pointer (some ⟨sb, 0, none⟩), .pointer (some ⟨yb, 0, none⟩), .pointer (some ⟨wb, 0, none⟩)] W fun e B => e = .returned (.bool true) ∧ ∃ x A, Un W A ∧ LogAt A x d pb ∧ CaKp W0 A B ∧ R x A B := by
  obtain ⟨xg, xc⟩ := x
  have HC := Lib.hid (fun q => pd_clone (xg, xc) d hd pb (W.drewN q) hx)
  have HY := Lib.hid hY
  have HW := Lib.hid hW
  have HYB := Lib.hid (show ∀ A, Un W A → A.cell? ⟨yb, 0, none⟩ = some (.func (.yield l) #[] #[]) from fun A hA => (hA.cell (p := ⟨yb, 0, none⟩) hyl).trans hy)
  clear hY hx hW hyl
  refine callsIn_of_wp Tryz.func124 rfl trivial ?_ rfl
  simp only [Tryz.ntmps124, List.append_toArray, List.cons_append, List.nil_append, List.size_toArray, List.length_cons, List.length_nil, Nat.reduceAdd, Nat.reduceSub, Array.replicate_succ, Array.replicate_zero, List.push_toArray, List.append_toArray, List.nil_append, List.cons_append]
  gi_wp2
  gi_region_with (first
    | (refine ⟨trivial, ?_⟩; gi_at_call 125; (refine (callsIn_wide.2 (HC.out 1)).mono ?_); rintro e A ⟨x, rfl, hlx, hbx⟩; have huA : Un W A := un_step (un_dr (un_refl W)) hbx; have yA := HYB.out A huA; obtain ⟨fn, tmps, assign, body, hy, hR⟩ := HY.out x A ⟨un_step HW.out huA, hlx⟩)
    | (refine hR.mono ?_; rintro e B ⟨rfl, hkp, hr⟩))
  all_goals
    gi_wp2
    refine bodyPost_ret (v := .bool true) ?_ ?_ ?_
    · kernel_rfl
    · rfl
    · exact ⟨rfl, x, A, huA, hlx, hkp, hr⟩
end Go.Proofs.YtdeccekeknlnoaaGreatDoor

namespace Go.Proofs.YtdeccekeknlnoaaGreatDoor
open Go.RowKit Go.Shelf
attribute [local go_sem] Oper.semAt_some
structure LetV (R K : Nat) : Prop where
  ty : R = 93
  sz : K = 20
theorem letV : ∃ R K : Nat, LetV R K := ⟨_, _, rfl, rfl⟩
/-- the stages in memory: one list of one event -/
def StgAt (w : World) (sb gs cs ge ce : Nat) (d : List Nat) (pb : Nat) : Prop := sb < w.heap.size ∧ gs < w.heap.size ∧ ge < w.heap.size ∧ w.cell? ⟨sb, 0, none⟩ = some (.slice (some ⟨gs, 0, none⟩) 1 cs) ∧ w.cell? ⟨gs, 0, none⟩ = some (.slice (some ⟨ge, 0, none⟩) 1 ce) ∧ w.rangeAt ge 0 (evL d (.slice (some ⟨pb, 0, none⟩) 0 0))
theorem StgAt.below {w w' : World} {sb gs cs ge ce : Nat} {d : List Nat} {pb : Nat} (h : StgAt w sb gs cs ge ce d pb) (hb : Below w.heap.size w w') : StgAt w' sb gs cs ge ce d pb := by
  obtain ⟨h1, h2, h3, h4, h5, h6⟩ := h
  have := hb.size
  exact ⟨by omega, by omega, by omega, (hb.cell (p := ⟨sb, 0, none⟩) h1).trans h4, (hb.cell (p := ⟨gs, 0, none⟩) h2).trans h5, fun j u hu => (hb.cell (p := ⟨ge, 0 + j, none⟩) h3).trans (h6 j u hu)⟩
set_option maxRecDepth 1000000 in
set_option maxHeartbeats 1000000 in
theorem pd_walk0 (l sb yb wb gs cs ge ce : Nat) (d : List Nat) (hd : d.length = 16) (pb : Nat) (W : World) (R : (Nat × Nat) → World → World → Prop) (W0 : World)
    (hst : StgAt W sb gs cs ge ce d pb) (hy : W.cell? ⟨yb, 0, none⟩ = some (.func (.yield l) #[] #[])) (hw : W.cell? ⟨wb, 0, none⟩ = some (.func (.func 124) #[] #[.pointer (some ⟨sb, 0, none⟩), .pointer (some ⟨yb, 0, none⟩), .pointer (some ⟨wb, 0, none⟩)]))
    (hyl : yb < W.heap.size) (hwl : wb < W.heap.size) (hw0 : W0.heap.size ≤ wb) (hW : Un W0 W)
    (hY : ∀ x A, Un W0 A ∧ LogAt A x d pb → YieldAt Fence.wide 1 Tryz.prog l #[.slice (some ⟨x.1, 0, none⟩) 1 x.2] A fun e B => e = .returned (.bool true) ∧ CaKp W0 A B ∧ R x A B) :
    Calls Tryz.prog 124 #[.slice none 0 0, .pointer (some ⟨sb, 0, none⟩), .pointer (some ⟨yb, 0, none⟩), .pointer (some ⟨wb, 0, none⟩)] W fun e B => e = .returned (.bool true) ∧ ∃ x A, Un W A ∧ LogAt A x d pb ∧ CaKp W0 A B ∧ R x A B := by
  obtain ⟨S, hS⟩ : ∃ S : Ending → World → Prop, (fun e B => e = .returned (.bool true) ∧ ∃ x A, Un W A ∧ LogAt A x d pb ∧ CaKp W0 A B ∧ R x A B) = S := ⟨_, rfl⟩
  rw [hS]
  have HSS := Lib.hid hS
  obtain ⟨E, N, L⟩ := letV
  have hlen : (evL d (.slice (some ⟨pb, 0, none⟩) 0 0)).length = 20 := by simp [evL, b8_len, hd]
  have hone : ∀ u ∈ evL d (.slice (some ⟨pb, 0, none⟩) 0 0), u.oneCell' = true := fun u hu => by
    simp only [evL, List.mem_append, List.mem_cons, List.mem_nil_iff, or_false] at hu
    rcases hu with hu | rfl | rfl | rfl | rfl
    · exact b8_one _ u hu
    all_goals rfl
  have hbs := fun w => build_events hd pb w
  have HK := Lib.hid (And.intro hst (And.intro hy (And.intro hw (And.intro hyl (And.intro hwl (And.intro hw0 (And.intro hW hY)))))))
  have HWK := Lib.hid (show ∀ (x : Nat × Nat) (V : World), Un W V → LogAt V x d pb → Calls Tryz.prog 124 #[.slice (some ⟨x.1, 0, none⟩) 1 x.2, .pointer (some ⟨sb, 0, none⟩), .pointer (some ⟨yb, 0, none⟩), .pointer (some ⟨wb, 0, none⟩)] V fun e B => e = .returned (.bool true) ∧ ∃ x A, Un V A ∧ LogAt A x d pb ∧ CaKp W0 A B ∧ R x A B from fun x V hV hx =>
    callsIn_wide.1 (pd_walk1 l sb yb wb gs cs x d hd pb V R W0 ((hV.cell (p := ⟨sb, 0, none⟩) hst.1).trans hst.2.2.2.1) ((hV.cell (p := ⟨yb, 0, none⟩) hyl).trans hy) (Nat.lt_of_lt_of_le hyl hV.size) hx (un_step hW hV) hY))
  obtain ⟨ev, hev⟩ : ∃ ev, (evL d (.slice (some ⟨pb, 0, none⟩) 0 0)).toArray = ev := ⟨_, rfl⟩
  rw [hev] at hbs
  have hevl : evL d (.slice (some ⟨pb, 0, none⟩) 0 0) = ev.toList := by rw [← hev]
  obtain ⟨s1, s2, s3, s4, s5, s6⟩ := hst
  have hl1 := ld_mid (N := N) (n := 20) L.sz s6 hlen
  rw [hev] at hl1
  have hst2 := st_new (w := W) (cs := ev) (z := #[.int .u8 0, .int .u8 0, .int .u8 0, .int .u8 0, .int .u8 0, .int .u8 0, .int .u8 0, .int .u8 0, .int .u8 0, .int .u8 0, .int .u8 0, .int .u8 0, .int .u8 0, .int .u8 0, .int .u8 0, .int .u8 0, .slice none 0 0, .slice none 0 0, .slice none 0 0, .int .i64 0]) (t := 93) (by rw [← hev]; simpa using hlen) (by rw [← hev, Array.all_eq_true_iff_forall_mem]; intro u hu; exact hone u (by simpa using hu))
  have hsz : ev.size = N := by rw [← hev, L.sz]; simpa using hlen
  have laE : ∀ w, Sem.run Tryz.prog (isAgg E) w = .ok true w := fun w => by rw [L.ty]; exact Tryz.isAgg93 w
  have lzE : ∀ w, Sem.run Tryz.prog (sizeOf E) w = .ok N w := fun w => by rw [L.ty, L.sz]; exact Tryz.sizeOf93 w
  have o1 : ∀ x, Op.load 93 x = Op.load E x := fun x => by rw [L.ty]
  have o2 : ∀ x y, Op.store 93 x y = Op.store E x y := fun x y => by rw [L.ty]
  have HL := Lib.hid (And.intro hlen (And.intro hone (And.intro hevl (And.intro hbs L))))
  clear hS hy hw hyl hwl hw0 hW hY s1 s2 s3 s6 L hlen hone hevl hev hbs
  go_enter Tryz.func124, Tryz.ntmps124
  simp only [o1, o2]
  clear o1 o2
  go_wp2_with fail
  refine wp_loop_rounds 2 ?_
  rw [rounds_succ]
  go_upto_region 6 with fail
  obtain ⟨X, hX⟩ : ∃ X, W.alloc (.cells ev 93) = X := ⟨_, rfl⟩
  have hxe : X.heap[W.heap.size]? = some (.cells ev 93 (0, 0)) := by rw [← hX]; exact heap_alloc_new _ _
  have hux : Un W X := by rw [← hX]; exact un_alloc (un_refl _) _
  have HSA := Lib.hid (show ∀ V : World, V.heap[wb]? = X.heap[wb]? → V.heap[W.heap.size]? = X.heap[W.heap.size]? → V.cell? ⟨wb, 0, none⟩ = some (.func (.func 124) #[] #[.pointer (some ⟨sb, 0, none⟩), .pointer (some ⟨yb, 0, none⟩), .pointer (some ⟨wb, 0, none⟩)]) ∧ Sem.run Tryz.prog (loadCellsFrom ⟨W.heap.size, 0, none⟩ 0 N #[]) V = .ok ev V from fun V h1 h2 => by
    refine ⟨(World.cell?_of_block (a := ⟨wb, 0, none⟩) h1).trans ((hux.cell (p := ⟨wb, 0, none⟩) HK.out.2.2.2.2.1).trans HK.out.2.2.1), ?_⟩
    have := ld_mid (N := N) (n := 20) HL.out.2.2.2.2.sz (range_block (h2.trans hxe)) (by have := hsz; rw [HL.out.2.2.2.2.sz] at this; simpa using this)
    rwa [Array.toArray_toList] at this)
  have HUX := Lib.hid hux
  have HXE := Lib.hid hxe
  rw [hX]
  clear hX hxe hux hl1 hst2
  obtain ⟨ze, hie, hzz⟩ := info_event
  obtain ⟨i0, hi, hz0, hz1, hz2⟩ := info_parts hie
  have HI := Lib.hid (And.intro hi (And.intro hz0 (And.intro hz1 (And.intro hz2 hzz))))
  clear hie hi hz0 hz1 hz2 hzz
  refine wp_region_noPanic ?_
  refine wp_region_held_drew (S := (fun w' => w'.cell? ⟨wb, 0, none⟩ = some (.func (.func 124) #[] #[.pointer (some ⟨sb, 0, none⟩), .pointer (some ⟨yb, 0, none⟩), .pointer (some ⟨wb, 0, none⟩)]) ∧ Sem.run Tryz.prog (loadCellsFrom ⟨W.heap.size, 0, none⟩ 0 N #[]) w' = .ok ev w')) (by kernel_rfl) (HSA.out _ rfl rfl) (fun hHeld => ?_)
  refine wpAnyH_take (i := 0) (oi := { dst := some 27, op := Op.load 228 (Operand.tmp 3), type := 228, pos := "predict.go:56", after := #[], guard := none }) (v := ?_) rfl (by kernel_rfl) (by kernel_rfl) (by kernel_rfl) (fun _ _ _ h => h) (Or.inl ⟨by rfl, ?_⟩) (by assumption) ?_
  rotate_left
  · intro w hSw
    (try dsimp only at hSw)
    go_split_ands
    go_simp
    try with_reducible rfl
  try simp only [Act.put, List.setIfInBounds_toArray, List.set_cons_zero, List.set_cons_succ]
  refine wpAnyH_take (i := 1) (oi := { dst := some 28, op := Op.move (Operand.tmp 0), type := 98, pos := "predict.go:56", after := #[], guard := none }) (v := ?_) rfl (by kernel_rfl) (by kernel_rfl) (by kernel_rfl) (fun _ _ _ h => h) (Or.inl ⟨by rfl, ?_⟩) (by assumption) ?_
  rotate_left
  · intro w hSw
    (try dsimp only at hSw)
    go_split_ands
    go_simp
    try with_reducible rfl
  try simp only [Act.put, List.setIfInBounds_toArray, List.set_cons_zero, List.set_cons_succ]
  refine wpAnyH_take (i := 2) (oi := { dst := some 29, op := Op.load E (Operand.tmp 7), type := 93, pos := "predict.go:56", after := #[], guard := none }) (v := ?_) rfl (by kernel_rfl) (by kernel_rfl) (by kernel_rfl) (fun _ _ _ h => h) (Or.inl ⟨by rfl, ?_⟩) (by assumption) ?_
  rotate_left
  · intro w hSw
    (try dsimp only at hSw)
    go_split_ands
    go_simp
    try with_reducible rfl
  try simp only [Act.put, List.setIfInBounds_toArray, List.set_cons_zero, List.set_cons_succ]
  refine wpAnyH_ready (rs := [3]) (by kernel_rfl) (by simp) ?_
  refine AllReadyH.cons (o := { dst := some 30, op := Op.buildSlice 98 1 #[(0, Operand.tmp 29)], type := 98, pos := "predict.go:56", after := #[{ on := 2, ground := Ground.data }], guard := none }) rfl (fun K hK => ?_) AllReadyH.nil
  refine step_val rfl (exec_slice1 rfl rfl (HL.out.2.2.2.1 X.drew)) ?_
  have huZ : Un X (X.drew.alloc (.cells ev 93)) := un_alloc (un_dr (un_refl X)) _
  have hwX : wb < X.heap.size := Nat.lt_of_lt_of_le HK.out.2.2.2.2.1 HUX.out.size
  refine hK.out _ _ (HSA.out _ (huZ.block _ hwX) (huZ.block _ (lt_of_block HXE.out))) (fun hHeld => ?_)
  clear hK K hHeld
  try simp only [Act.put, List.setIfInBounds_toArray, List.set_cons_zero, List.set_cons_succ]
  obtain ⟨hi, hz0, hz1, hz2, hzz⟩ := HI.out
  refine wpAnyH_ready (rs := [4]) (by kernel_rfl) (by simp) ?_
  refine AllReadyH.cons (o := { dst := some 31, op := Op.call { callee := Callee.builtin Builtin.append, args := #[Operand.tmp 28, Operand.tmp 30], argTypes := #[98, 98] }, type := 98, pos := "predict.go:56", after := #[{ on := 1, ground := Ground.data }, { on := 3, ground := Ground.data }], guard := none }) rfl (fun K hK => ?_) AllReadyH.nil
  refine step_append_lies _ rfl (.tmp 28) (.tmp 30) 98 rfl X.heap.size 93 i0 _ 20 96 Tryz.underlying98 hi hz0 hz1 hz2 hzz (by decide) (.slice none 0 0) 0 [] rfl (World.ownsRow_nil _ _ _ _) ⟨X.heap.size, 0, none⟩ 1 1 ev.toList rfl (by have := HL.out.1; rw [HL.out.2.2.1] at this; exact this) (World.news_of_block (heap_alloc_new _ _)) (by have := HL.out.2.1; rw [HL.out.2.2.1] at this; exact this) (by decide) (by decide) (by decide) (by simp) (X.heap.size + 1) (by simp) ?_
  intro g6 c6 W6 hown hgr hat hlt6
  have hu6 : Un X W6 := un_step huZ (by simpa using grown_none hgr)
  refine hK.out _ _ (HSA.out _ (hu6.block _ hwX) (hu6.block _ (lt_of_block HXE.out))) (fun hHeld => ?_)
  clear hK K hHeld
  try simp only [Act.put, List.setIfInBounds_toArray, List.set_cons_zero, List.set_cons_succ]
  have hR6 : W6.rangeAt g6 0 ev.toList := own_range hown
  have hlg : g6 < W6.heap.size := by
    obtain ⟨-, h2 | ⟨g', cap', cur, h2, h3, h4, -⟩⟩ := hown
    · cases h2.1
    · cases h2
      exact lt_of_block h4
  have hlog : LogAt W6 (g6, c6) d pb := ⟨hlg, by rw [HL.out.2.2.1]; exact hR6⟩
  have HW6 := Lib.hid (HWK.out (g6, c6) W6 (un_step HUX.out hu6) hlog)
  refine wpAnyH_ready (rs := [5]) (by kernel_rfl) (by simp) ?_
  refine AllReadyH.cons (o := { dst := some 32, op := Op.call { callee := Callee.value (Operand.tmp 27), args := #[Operand.tmp 31], argTypes := #[98] }, type := 4, pos := "predict.go:56", after := #[{ on := 0, ground := Ground.data }, { on := 4, ground := Ground.data }, { on := 4, ground := Ground.chain }], guard := none }) rfl (fun K hK => ?_) AllReadyH.nil
  go_simp
  refine HW6.out.mono ?_
  rintro e B ⟨rfl, x, A, hA, hlx, hkp, hr⟩
  go_wp2_with fail
  have huA : Un X A := un_step hu6 hA
  have hww := HK.out.2.2.2.2.2.1
  have hws := HK.out.2.2.2.2.2.2.1.size
  refine hK.out _ _ (HSA.out _ ((hkp.2 wb hww (Nat.lt_of_lt_of_le hwX huA.size)).trans (huA.block _ hwX)) ((hkp.2 W.heap.size hws (Nat.lt_of_lt_of_le (lt_of_block HXE.out) huA.size)).trans (huA.block _ (lt_of_block HXE.out)))) (fun hHeld => ?_)
  clear hK K hHeld
  try simp only [Act.put, List.setIfInBounds_toArray, List.set_cons_zero, List.set_cons_succ]
  refine wpAnyH_ready (rs := [6]) (by kernel_rfl) (by simp) ?_
  refine AllReadyH.cons rfl (fun K hK => ?_) AllReadyH.nil
  go_simp
  refine hK.out _ _ (HSA.out _ ((hkp.2 wb hww (Nat.lt_of_lt_of_le hwX huA.size)).trans (huA.block _ hwX)) ((hkp.2 W.heap.size hws (Nat.lt_of_lt_of_le (lt_of_block HXE.out) huA.size)).trans (huA.block _ (lt_of_block HXE.out)))) (fun hHeld => ?_)
  clear hK K hHeld
  try simp only [Act.put, List.setIfInBounds_toArray, List.set_cons_zero, List.set_cons_succ]
  refine wpAnyH_done (by kernel_rfl) ?_ _
  refine NoPanic.normal ?_
  have HF := Lib.hid (And.intro (un_step (un_step HUX.out hu6) hA) (And.intro hlx (And.intro hkp hr)))
  clear hA hlx hkp hr huA hww hws hlog hlg hR6 hown hgr hat hlt6 hu6 huZ hwX hi hz0 hz1 hz2 hzz HW6
  go_wp2_with fail
  rw [rounds_succ]
  go_wp2_with fail
  rw [← HSS.out]
  exact ⟨rfl, x, A, HF.out⟩
end Go.Proofs.YtdeccekeknlnoaaGreatDoor

namespace Go.Proofs.YtdeccekeknlnoaaGreatDoor
open Go.RowKit Go.Shelf
attribute [local go_sem] Oper.semAt_some
def PdPre (d : List Nat) (pb : Nat) (W : World) (x : Nat × Nat) (A : World) : Prop := Un W A ∧ LogAt A x d pb
def PdFin (_ _ B W' : World) : Prop := W' = B
set_option maxRecDepth 1000000 in
set_option maxHeartbeats 1000000 in
theorem pd_once (sb gs cs ge ce : Nat) (d : List Nat) (hd : d.length = 16) (pb : Nat) (w : World) (h : StgAt w sb gs cs ge ce d pb) :
    Once Tryz.prog 123 #[.pointer (some ⟨sb, 0, none⟩)] (fun x : Nat × Nat => #[.slice (some ⟨x.1, 0, none⟩) 1 x.2]) (PdPre d pb) CaKp PdFin w := fun l W R hW hY => by
  refine callsIn_wide.2 ?_
  obtain ⟨S, hS⟩ : ∃ S : Ending → World → Prop, (fun e W' => (∃ v, e = .returned v) ∧ ∃ x A B, PdPre d pb W x A ∧ R x A B ∧ PdFin W A B W') = S := ⟨_, rfl⟩
  show Calls _ _ _ _ (fun e W' => (∃ v, e = .returned v) ∧ ∃ x A B, PdPre d pb W x A ∧ R x A B ∧ PdFin W A B W')
  rw [hS]
  have HSS := Lib.hid hS
  have hmf : ∀ (fn : Fn) (first cap : Array Value) (w : World), (Instr.makeFunc fn first cap).run Tryz.prog w = .ok (.func fn first cap) w := fun _ _ _ _ => rfl
  have hst : StgAt W sb gs cs ge ce d pb := h.below hW
  have HX := Lib.hid (show ∀ X, (W.alloc (.cells #[.func (.yield l) #[] #[]] 228)).alloc (.cells #[.func (.func 124) #[] #[.pointer (some ⟨sb, 0, none⟩), .pointer (some ⟨W.heap.size, 0, none⟩), .pointer (some ⟨W.heap.size + 1, 0, none⟩)]] 228) = X →
      Calls Tryz.prog 124 #[.slice none 0 0, .pointer (some ⟨sb, 0, none⟩), .pointer (some ⟨W.heap.size, 0, none⟩), .pointer (some ⟨W.heap.size + 1, 0, none⟩)] X fun e B => e = .returned (.bool true) ∧ ∃ x A, Un X A ∧ LogAt A x d pb ∧ CaKp W A B ∧ R x A B from fun X hX => by
    obtain ⟨b2, hbX, hsX⟩ := two_boxesC X hX
    have b1 : X.heap[W.heap.size]? = some (.cells #[.func (.yield l) #[] #[]] 228 (0, 0)) := by rw [← hX]; exact (Below.heap_alloc _ _ _ (by simp)).trans (heap_alloc_new _ _)
    exact pd_walk0 l sb W.heap.size (W.heap.size + 1) gs cs ge ce d hd pb X R W (hst.below hbX) (one_cell b1).1 (one_cell b2).1 (by omega) (by omega) (by omega) hbX hY)
  clear hS hst h hW hY
  go_enter Tryz.func123, Tryz.ntmps123
  go_wp2_with (go_at_call 124; generalize hX : World.alloc (World.alloc _ _) _ = X; refine (HX.out X hX).mono ?_; rintro e B ⟨rfl, x, A, hA, hlx, hkp, hr⟩)
  go_end0
  rw [← HSS.out]
  have hu : Un W A := by
    obtain ⟨-, hbX, -⟩ := two_boxesC X hX
    exact un_step hbX hA
  exact ⟨⟨_, rfl⟩, x, A, B, ⟨hu, hlx⟩, hr, rfl⟩
/-- what the body of AppendSeq leaves -/
def ApB (s2 : Nat) (x : Nat × Nat) (X Y : World) : Prop := Ate s2 X Y ∧ ∃ g c, Y.heap[s2]? = some (.cells #[.slice (some ⟨g, 0, none⟩) 1 c] 95 (0, 0)) ∧ X.heap.size ≤ g ∧ g < Y.heap.size ∧ Y.cell? ⟨g, 0, none⟩ = some (.slice (some ⟨x.1, 0, none⟩) 1 x.2)
theorem ap_done {s2 cap : Nat} {x : Nat × Nat} {X : World} {o1 : Obj} {r : Array Value} (hs2 : X.heap[s2]? = some (.cells #[.slice none 0 0] 95 (0, 0))) :
    ApB s2 x X (((X.alloc o1).alloc (.cells (#[.slice (some ⟨x.1, 0, none⟩) 1 x.2] ++ r) 98)).drew.setCell ⟨s2, 0, none⟩ (.slice (some ⟨X.heap.size + 1, 0, none⟩) 1 cap)) := by
  have hlt := lt_of_block hs2
  obtain ⟨Z, hZ⟩ : ∃ Z, (X.alloc o1).alloc (.cells (#[.slice (some ⟨x.1, 0, none⟩) 1 x.2] ++ r) 98) = Z := ⟨_, rfl⟩
  obtain ⟨b2, hb, hs⟩ := two_boxesC Z hZ
  rw [hZ]
  have h6 : Z.drew.heap[s2]? = some (.cells #[.slice none 0 0] 95 (0, 0)) := (hb.block _ hlt).trans hs2
  refine ⟨⟨hb.os, hb.tape, hb.output, by simp [World.setCell]; omega, fun k hk hk6 => ?_⟩, X.heap.size + 1, cap, set_one h6, by omega, by simp [World.setCell]; omega, ?_⟩
  · rw [set_other _ _ _ _ _ hk6]
    exact hb.block k hk
  · refine (World.cell?_of_block (a := ⟨X.heap.size + 1, 0, none⟩) (w := Z) (set_other _ _ _ _ _ (show X.heap.size + 1 ≠ s2 by omega))).trans ?_
    exact head_cell b2
theorem frz2 {w : World} {b : Nat} {a : Value} {t : TypeId} (h : w.heap[b]? = some (.cells #[a] t (0, 0))) (o1 o2 : Obj) : ((w.alloc o1).alloc o2).frozen? ⟨b, 0, none⟩ = false :=
  (one_cell ((Below.heap_alloc _ o2 _ (by have := lt_of_block h; simp; omega)).trans ((Below.heap_alloc _ o1 _ (lt_of_block h)).trans h))).2
theorem begun_pd {d : List Nat} {pb : Nat} {w W A X : World} {x : Nat × Nat} (h : Begun (PdPre d pb) w x W A X) : (∀ k, k < w.heap.size → X.heap[k]? = w.heap[k]?) ∧ w.heap.size + 2 ≤ X.heap.size ∧ X.os = w.os ∧ X.tape = w.tape ∧ X.output = w.output := by
  obtain ⟨o, ho, hW, hs, hP, rfl, hlp⟩ := h
  have hP' : Below W.heap.size W A := hP.1
  refine ⟨fun k hk => ?_, ?_, hP'.os.trans hW.os, hP'.tape.trans hW.tape, hP'.output.trans hW.output⟩
  · rw [World.putObj_heap_other (by omega), hP'.block k (by omega)]
    exact hW.block k hk
  · have := hP'.size
    simp
    omega
/-- the one log that the bundle has -/
def LogsV (w : World) (v : Value) (d : List Nat) : Prop := ∃ g c pb, ∃ x : Nat × Nat, v = .slice (some ⟨g, 0, none⟩) 1 c ∧ g < w.heap.size ∧ w.cell? ⟨g, 0, none⟩ = some (.slice (some ⟨x.1, 0, none⟩) 1 x.2) ∧ LogAt w x d pb
theorem LogAt.keep {A B : World} {x : Nat × Nat} {d : List Nat} {pb : Nat} (h : LogAt A x d pb) (hk : B.heap[x.1]? = A.heap[x.1]?) (hs : A.heap.size ≤ B.heap.size) : LogAt B x d pb :=
  ⟨Nat.lt_of_lt_of_le h.1 hs, fun j u hu => (World.cell?_of_block (a := ⟨x.1, 0 + j, none⟩) hk).trans (h.2 j u hu)⟩
theorem LogsV.below {w w' : World} {v : Value} {d : List Nat} (h : LogsV w v d) (hb : Below w.heap.size w w') : LogsV w' v d := by
  obtain ⟨g, c, pb, x, h1, h2, h3, h4⟩ := h
  exact ⟨g, c, pb, x, h1, Nat.lt_of_lt_of_le h2 hb.size, (hb.cell (p := ⟨g, 0, none⟩) h2).trans h3, h4.keep (hb.block _ h4.1) hb.size⟩
end Go.Proofs.YtdeccekeknlnoaaGreatDoor
