/- Device: New of both packages. -/
import Derived.Test.YtncgechmloekbaaDvS
import Derived.Deep.MidRow
import Derived.Deep.Cut
namespace Go.Proofs.Ytncgechmloekbaa
open Go.RowKit

theorem RInts.form_ {w : World} {B : Nat} {v : Value} {xs : List Int} (h : RInts w B v xs) : ∃ A c, v = .slice A xs.length c ∧ xs.length ≤ c ∧ c ≤ maxLen := by
  obtain ⟨A, c, h1, h2, h3, _⟩ := h
  exact ⟨A, c, h1, h2, h3⟩
theorem below_setCells {B b : Nat} {w0 : World} : ∀ {w : World} (_ : Below B w0 w) (_ : B ≤ b) (vs : List Value) (o : Nat), Below B w0 (w.setCells b o vs)
  | _, h, _, [], _ => h
  | _, h, hb, v :: vs, o => below_setCells (h.setCell (p := ⟨b, o, none⟩) hb v) hb vs (o + 1)
theorem strsK_nil (W : World) (ok : Nat → Prop) : StrsK W ok (.slice none 0 0) [] := ⟨none, 0, rfl, by simp, by simp [maxLen], by simp, fun h => absurd h (by simp)⟩
theorem heap_setCells (b : Nat) : ∀ (vs : List Value) (o : Nat) (w : World) (k : Nat), k ≠ b → (w.setCells b o vs).heap[k]? = w.heap[k]?
  | [], _, _, _, _ => rfl
  | v :: vs, o, w, k, h => (heap_setCells b vs (o + 1) _ k h).trans (heap_setCell_other w ⟨b, o, none⟩ k v h)
theorem range_one {w : World} {b : Nat} {v : Value} (h : w.cell? ⟨b, 0, none⟩ = some v) : w.rangeAt b 0 [v] := by
  intro j u hu
  match j with
  | 0 => simp at hu; subst hu; exact h
  | j + 1 => simp at hu
theorem cell_alloc {w : World} {a : Addr} {v : Value} (h : w.cell? a = some v) (o : Obj) : (w.alloc o).cell? a = some v :=
  (World.cell?_alloc_lt w o a (World.block_lt_of_cell? w a h)).trans h
theorem range_block {w : World} {b : Nat} {cs : Array Value} {t : TypeId} (h : w.heap[b]? = some (.cells cs t (0, 0))) : w.rangeAt b 0 cs.toList := by
  intro j v hv
  rw [Nat.zero_add, cell_of_row w b j cs t _ h]
  simpa using hv
theorem range_below {W W' : World} {B b o : Nat} {cs : List Value} (h : W.rangeAt b o cs) (hb : Below B W W') (hl : b < B) : W'.rangeAt b o cs := fun j v hv => (hb.cell (p := ⟨b, o + j, none⟩) hl).trans (h j v hv)
theorem there_below {W W' : World} {B b o n : Nat} (h : W.there b o n) (hb : Below B W W') (hl : b < B) : W'.there b o n := fun j hj => by
  have h1 := h j hj
  exact ⟨by rw [hb.cell (p := ⟨b, o + j, none⟩) hl]; exact h1.1, by rw [hb.frozen (p := ⟨b, o + j, none⟩) hl]; exact h1.2⟩
theorem hole_there {w w1 : World} {o1 o2 : Obj} {b n : Nat} {cs : Array Value} {t : TypeId} (h : w1.heap[b]? = ((w.alloc o1).alloc o2).heap[b]?) (hb : ((w.alloc o1).alloc o2).heap[b]? = some (.cells cs t (0, 0)) ∧ n ≤ cs.size) : w1.there b 0 n := by
  intro j hj
  have h2 := h.trans hb.1
  constructor
  · simp only [World.cell?, h2]
    have : j < cs.size := by omega
    simp [this]
  · simp [World.frozen?, h2]
def newRoot (bits : List Int) (r : Nat → Int) : Nat → Int := if Fz.newOK bits then r else fun _ => 0
def newFlash (bits : List Int) : List ByteArray := if Fz.newOK bits then Fm.Fl.newF 128 else []
def NewSays (w : World) (bits : List Int) (r : Nat → Int) (e : Ending) (w' : World) : Prop :=
  ∃ v' u', e = .returned (.tuple #[.agg #[v', u', .int .u8 (newRoot bits r 0), .int .u8 (newRoot bits r 1), .int .u8 (newRoot bits r 2), .int .u8 (newRoot bits r 3), .int .u8 (newRoot bits r 4), .int .u8 (newRoot bits r 5), .int .u8 (newRoot bits r 6), .int .u8 (newRoot bits r 7), .int .u8 (newRoot bits r 8), .int .u8 (newRoot bits r 9), .int .u8 (newRoot bits r 10), .int .u8 (newRoot bits r 11), .int .u8 (newRoot bits r 12), .int .u8 (newRoot bits r 13), .int .u8 (newRoot bits r 14), .int .u8 (newRoot bits r 15)], .int .i64 (Fz.newE bits)]) ∧ RRowsK w' (fun b => w.heap.size ≤ b) v' (Fz.newF bits) ∧ StrsK w' (fun b => w.heap.size ≤ b) u' (newFlash bits) ∧ Below w.heap.size w w'

set_option maxRecDepth 100000 in
set_option maxHeartbeats 4000000 in
theorem dnew_any (r : Nat → Int) (v : Value) (bits : List Int) (w : World) (hv : RInts w w.heap.size v bits) :
    Calls Try.prog 12 #[.agg #[.int .u8 (r 0), .int .u8 (r 1), .int .u8 (r 2), .int .u8 (r 3), .int .u8 (r 4), .int .u8 (r 5), .int .u8 (r 6), .int .u8 (r 7), .int .u8 (r 8), .int .u8 (r 9), .int .u8 (r 10), .int .u8 (r 11), .int .u8 (r 12), .int .u8 (r 13), .int .u8 (r 14), .int .u8 (r 15)], v] w (NewSays w bits r) := by
  unfold NewSays
  have hB : ∀ o1 o2, Below w.heap.size w ((w.alloc o1).alloc o2) := fun o1 o2 => ((Below.refl _ _).alloc (Nat.le_refl _) _).alloc (by simp) _
  obtain ⟨A, c, rfl, -, -⟩ := hv.form_
  cases hok : Fz.newOK bits
  · have hno := new_no hok
    have H1 := Lib.hid hno.1
    have H2 := Lib.hid hno.2
    have H3 := Lib.hid hok
    clear hno hok
    go_enter Try.func12, Try.ntmps12
    go_wp2_with fail
    refine (newK_any _ bits _ ((hv.below (hB _ _)).more (hB _ _).size)).mono ?_
    rintro e w1 ⟨v1, rfl, hf1, hb1⟩
    rw [H1.out]
    obtain ⟨A1, c1, rfl⟩ := hf1.form_
    have hb0 := hb1.block (w.heap.size + 1) (by simp)
    obtain ⟨hk1, hk2⟩ := bcell hb1
    have hz1 := hb1.size
    simp only [World.size_alloc] at hz1 hk1 hk2
    have hz2 : w.heap.size + 1 < w1.heap.size := by omega
    have hb1 := (hB _ _).trans (hb1.mono (hB _ _).size)
    clear hf1
    have hth : w1.there (w.heap.size + 1) 0 18 := hole_there hb0 ⟨Fm.heap_second' _ _ _, by simp⟩
    go_wp2_with (refine wpList_store_mid rfl 31 (.tmp 4) (.tmp 16) rfl (w.heap.size + 1) 0 #[.slice none 0 0, .slice none 0 0, .int .u8 0, .int .u8 0, .int .u8 0, .int .u8 0, .int .u8 0, .int .u8 0, .int .u8 0, .int .u8 0, .int .u8 0, .int .u8 0, .int .u8 0, .int .u8 0, .int .u8 0, .int .u8 0, .int .u8 0, .int .u8 0] ?hx ?hy ?ht ?hi ?h1 ?h; (case hx => rfl); (case hy => rfl); (case ht => exact World.there_alloc hth _); (case hi => kernel_rfl); (case h1 => simp [Value.oneCell']))
    have HB0 : Below w.heap.size w (w1.alloc (.cells #[.slice A1 (Fz.newF bits).length c1] 24)) := hb1.alloc (by omega) _
    obtain ⟨W2, hW2⟩ : ∃ W2, W2 = (w1.alloc (.cells #[.slice A1 (Fz.newF bits).length c1] 24)).setCells (w.heap.size + 1) 0 (#[.slice none 0 0, .slice none 0 0, .int .u8 0, .int .u8 0, .int .u8 0, .int .u8 0, .int .u8 0, .int .u8 0, .int .u8 0, .int .u8 0, .int .u8 0, .int .u8 0, .int .u8 0, .int .u8 0, .int .u8 0, .int .u8 0, .int .u8 0, .int .u8 0] : Array Value).toList := ⟨_, rfl⟩
    have HR : W2.rangeAt (w.heap.size + 1) 0 (#[.slice none 0 0, .slice none 0 0, .int .u8 0, .int .u8 0, .int .u8 0, .int .u8 0, .int .u8 0, .int .u8 0, .int .u8 0, .int .u8 0, .int .u8 0, .int .u8 0, .int .u8 0, .int .u8 0, .int .u8 0, .int .u8 0, .int .u8 0, .int .u8 0] : Array Value).toList := by rw [hW2]; exact World.rangeAt_setCells_same _ _ _ _ (World.there_alloc hth _)
    have HB : Below w.heap.size w W2 := by rw [hW2]; exact below_setCells HB0 (by omega) _ _
    change bodyPost _ _ _ _ _ ((w1.alloc (.cells #[.slice A1 (Fz.newF bits).length c1] 24)).setCells (w.heap.size + 1) 0 (#[.slice none 0 0, .slice none 0 0, .int .u8 0, .int .u8 0, .int .u8 0, .int .u8 0, .int .u8 0, .int .u8 0, .int .u8 0, .int .u8 0, .int .u8 0, .int .u8 0, .int .u8 0, .int .u8 0, .int .u8 0, .int .u8 0, .int .u8 0, .int .u8 0] : Array Value).toList)
    rw [← hW2]
    clear hW2 HB0
    refine bodyPost_ret (v := .tuple #[.agg #[.slice none 0 0, .slice none 0 0, .int .u8 0, .int .u8 0, .int .u8 0, .int .u8 0, .int .u8 0, .int .u8 0, .int .u8 0, .int .u8 0, .int .u8 0, .int .u8 0, .int .u8 0, .int .u8 0, .int .u8 0, .int .u8 0, .int .u8 0, .int .u8 0], .int .i64 1]) ?_ rfl ⟨.slice none 0 0, .slice none 0 0, ?_, ?_, ?_, HB⟩
    · simp [results, Try.results12, asAddr, run_loadVar_mid (P := Try.prog) W2 (w.heap.size + 1) 0 31 _ _ HR Try.underlying31 rfl (by kernel_rfl)]
    · rw [H1.out]; simp only [newRoot, H3.out]; rfl
    · rw [H2.out]; exact rowsK_nil _ _
    · rw [show newFlash bits = [] by simp [newFlash, H3.out]]; exact strsK_nil _ _
  · have hyes := new_yes hok
    have H1 := Lib.hid hyes.1
    have H3 := Lib.hid hok
    clear hyes hok
    go_enter Try.func12, Try.ntmps12
    go_wp2_with fail
    refine (newK_any _ bits _ ((hv.below (hB _ _)).more (hB _ _).size)).mono ?_
    rintro e w1 ⟨v1, rfl, hf1, hb1⟩
    rw [H1.out]
    obtain ⟨A1, c1, rfl⟩ := hf1.form_
    have hb0 := hb1.block (w.heap.size + 1) (by simp)
    have hth0 : w1.there (w.heap.size + 1) 0 18 := hole_there hb0 ⟨Fm.heap_second' _ _ _, by simp⟩
    have hrg0 : w1.rangeAt w.heap.size 0 (#[.int .u8 (r 0), .int .u8 (r 1), .int .u8 (r 2), .int .u8 (r 3), .int .u8 (r 4), .int .u8 (r 5), .int .u8 (r 6), .int .u8 (r 7), .int .u8 (r 8), .int .u8 (r 9), .int .u8 (r 10), .int .u8 (r 11), .int .u8 (r 12), .int .u8 (r 13), .int .u8 (r 14), .int .u8 (r 15)] : Array Value).toList := range_block ((hb1.block w.heap.size (by simp; omega)).trans ((Below.heap_alloc _ _ _ (by simp)).trans (heap_alloc_new _ _)))
    have hz1 := hb1.size
    simp only [World.size_alloc] at hz1
    have hb1 := (hB _ _).trans (hb1.mono (hB _ _).size)
    have h2 : w.heap.size + 1 < w1.heap.size := by omega
    go_wp2_with fail
    refine (fnewK_any 128 _).mono ?_
    rintro e w2 ⟨u1, rfl, hm2, hb2⟩
    rw [show Fm.Fl.newE 128 = 0 by decide]
    obtain ⟨A3, c3, rfl⟩ := hm2.form_
    have HF2 := Lib.hid (hf1.below ((Below.new _).trans (hb2.mono (by simp))))
    have HM2 := Lib.hid hm2
    clear hm2
    have hz2 := hb2.size
    simp only [World.size_alloc] at hz2
    have cF : w2.cell? ⟨w1.heap.size, 0, none⟩ = some (.slice A1 (Fz.newF bits).length c1) := (hb2.cell (p := ⟨w1.heap.size, 0, none⟩) (by simp)).trans (by simp)
    have hb12 : Below w1.heap.size w1 w2 := (Below.new _).trans (hb2.mono (by simp))
    have hth := World.there_alloc (there_below hth0 hb12 h2) (.cells #[.slice A3 (Fm.Fl.newF 128).length c3] 27)
    have hrg := World.rangeAt_alloc (range_below hrg0 hb12 (by omega)) (.cells #[.slice A3 (Fm.Fl.newF 128).length c3] 27)
    have hb2 := hb1.trans (hb12.mono (by omega))
    have h3 : w1.heap.size < w2.heap.size := by omega
    clear hf1 hth0 hrg0 hb0 hb12
    have HB0 : Below w.heap.size w (w2.alloc (.cells #[.slice A3 (Fm.Fl.newF 128).length c3] 27)) := hb2.alloc (by omega) _
    have HT := Lib.hid hth
    have HG := Lib.hid hrg
    clear hth hrg
    go_upto_region 7 with fail
    refine wp_region_list ?_
    simp only []
    refine wpList_load_mid rfl 24 (.tmp 6) rfl w1.heap.size 0 rfl [.slice A1 (Fz.newF bits).length c1] _ (range_one (cell_alloc cF _)) Try.underlying24 rfl (by kernel_rfl) ?_
    refine wpList_load_mid rfl 27 (.tmp 8) rfl w2.heap.size 0 rfl [.slice A3 (Fm.Fl.newF 128).length c3] _ (range_one (cell_of_one (heap_alloc_new _ _))) Try.underlying27 rfl (by kernel_rfl) ?_
    refine wpList_load_mid rfl 29 (.tmp 2) rfl w.heap.size 0 rfl (#[.int .u8 (r 0), .int .u8 (r 1), .int .u8 (r 2), .int .u8 (r 3), .int .u8 (r 4), .int .u8 (r 5), .int .u8 (r 6), .int .u8 (r 7), .int .u8 (r 8), .int .u8 (r 9), .int .u8 (r 10), .int .u8 (r 11), .int .u8 (r 12), .int .u8 (r 13), .int .u8 (r 14), .int .u8 (r 15)] : Array Value).toList _ HG.out Try.underlying29 rfl (by kernel_rfl) ?_
    refine wpList_plain rfl fun K1 hK1 => ?_
    simp [Oper.wp, execOp, go_sem, Act.eval, Act.put]
    refine hK1 _ _ ?_
    refine wpList_store_mid rfl 31 (.tmp 4) (.tmp 29) rfl (w.heap.size + 1) 0 #[.slice A1 (Fz.newF bits).length c1, .slice A3 (Fm.Fl.newF 128).length c3, .int .u8 (r 0), .int .u8 (r 1), .int .u8 (r 2), .int .u8 (r 3), .int .u8 (r 4), .int .u8 (r 5), .int .u8 (r 6), .int .u8 (r 7), .int .u8 (r 8), .int .u8 (r 9), .int .u8 (r 10), .int .u8 (r 11), .int .u8 (r 12), .int .u8 (r 13), .int .u8 (r 14), .int .u8 (r 15)] rfl rfl HT.out (by kernel_rfl) (by simp [Value.oneCell']) ?_
    obtain ⟨W2, hW2⟩ : ∃ W2, W2 = (w2.alloc (.cells #[.slice A3 (Fm.Fl.newF 128).length c3] 27)).setCells (w.heap.size + 1) 0 (#[.slice A1 (Fz.newF bits).length c1, .slice A3 (Fm.Fl.newF 128).length c3, .int .u8 (r 0), .int .u8 (r 1), .int .u8 (r 2), .int .u8 (r 3), .int .u8 (r 4), .int .u8 (r 5), .int .u8 (r 6), .int .u8 (r 7), .int .u8 (r 8), .int .u8 (r 9), .int .u8 (r 10), .int .u8 (r 11), .int .u8 (r 12), .int .u8 (r 13), .int .u8 (r 14), .int .u8 (r 15)] : Array Value).toList := ⟨_, rfl⟩
    have HR : W2.rangeAt (w.heap.size + 1) 0 (#[.slice A1 (Fz.newF bits).length c1, .slice A3 (Fm.Fl.newF 128).length c3, .int .u8 (r 0), .int .u8 (r 1), .int .u8 (r 2), .int .u8 (r 3), .int .u8 (r 4), .int .u8 (r 5), .int .u8 (r 6), .int .u8 (r 7), .int .u8 (r 8), .int .u8 (r 9), .int .u8 (r 10), .int .u8 (r 11), .int .u8 (r 12), .int .u8 (r 13), .int .u8 (r 14), .int .u8 (r 15)] : Array Value).toList := by rw [hW2]; exact World.rangeAt_setCells_same _ _ _ _ HT.out
    have HB : Below w.heap.size w W2 := by rw [hW2]; exact below_setCells HB0 (by omega) _ _
    have HU : ∀ b, w.heap.size + 2 ≤ b ∧ b < w2.heap.size → W2.heap[b]? = w2.heap[b]? := fun b hb => by rw [hW2]; exact (heap_setCells _ _ _ _ _ (by omega)).trans (Below.heap_alloc _ _ _ hb.2)
    rw [← hW2]
    have HR := Lib.hid HR
    have HU := Lib.hid HU
    clear hW2 HB0 HT HG hK1
    go_wp2
    refine bodyPost_ret (v := .tuple #[.agg #[.slice A1 (Fz.newF bits).length c1, .slice A3 (Fm.Fl.newF 128).length c3, .int .u8 (r 0), .int .u8 (r 1), .int .u8 (r 2), .int .u8 (r 3), .int .u8 (r 4), .int .u8 (r 5), .int .u8 (r 6), .int .u8 (r 7), .int .u8 (r 8), .int .u8 (r 9), .int .u8 (r 10), .int .u8 (r 11), .int .u8 (r 12), .int .u8 (r 13), .int .u8 (r 14), .int .u8 (r 15)], .int .i64 0]) ?_ rfl ⟨.slice A1 (Fz.newF bits).length c1, .slice A3 (Fm.Fl.newF 128).length c3, ?_, ?_, ?_, HB⟩
    · simp [results, Try.results12, asAddr, run_loadVar_mid (P := Try.prog) W2 (w.heap.size + 1) 0 31 _ _ HR.out Try.underlying31 rfl (by kernel_rfl)]
    · rw [H1.out]; simp only [newRoot, H3.out]; rfl
    · exact HF2.out.bnd.keep (fun b hb => HU.out b ⟨by have := hb.1; simp at this; omega, hb.2⟩) (fun b hb => by have := hb.1; simp at this; show w.heap.size ≤ b; omega)
    · rw [show newFlash bits = Fm.Fl.newF 128 by simp [newFlash, H3.out]]
      exact HM2.out.bnd.keep (fun b hb => HU.out b ⟨by have := hb.1; simp at this; omega, hb.2⟩) (fun b hb => by have := hb.1; simp at this; show w.heap.size ≤ b; omega)

set_option maxRecDepth 100000 in
set_option maxHeartbeats 4000000 in
theorem drnew_any (r : Nat → Int) (v : Value) (bits : List Int) (w : World) (hv : RInts w w.heap.size v bits) :
    Calls Try.prog 13 #[.agg #[.int .u8 (r 0), .int .u8 (r 1), .int .u8 (r 2), .int .u8 (r 3), .int .u8 (r 4), .int .u8 (r 5), .int .u8 (r 6), .int .u8 (r 7), .int .u8 (r 8), .int .u8 (r 9), .int .u8 (r 10), .int .u8 (r 11), .int .u8 (r 12), .int .u8 (r 13), .int .u8 (r 14), .int .u8 (r 15)], v] w (NewSays w bits r) := by
  unfold NewSays
  have hB : ∀ o1 o2, Below w.heap.size w ((w.alloc o1).alloc o2) := fun o1 o2 => ((Below.refl _ _).alloc (Nat.le_refl _) _).alloc (by simp) _
  obtain ⟨A, c, rfl, -, -⟩ := hv.form_
  cases hok : Fz.newOK bits
  · have hno := new_no hok
    have H1 := Lib.hid hno.1
    have H2 := Lib.hid hno.2
    have H3 := Lib.hid hok
    clear hno hok
    go_enter Try.func13, Try.ntmps13
    go_wp2_with fail
    refine (rnewK_any _ bits _ ((hv.below (hB _ _)).more (hB _ _).size)).mono ?_
    rintro e w1 ⟨v1, rfl, hf1, hb1⟩
    rw [H1.out]
    obtain ⟨A1, c1, rfl⟩ := hf1.form_
    have hb0 := hb1.block (w.heap.size + 1) (by simp)
    obtain ⟨hk1, hk2⟩ := bcell hb1
    have hz1 := hb1.size
    simp only [World.size_alloc] at hz1 hk1 hk2
    have hz2 : w.heap.size + 1 < w1.heap.size := by omega
    have hb1 := (hB _ _).trans (hb1.mono (hB _ _).size)
    clear hf1
    have hth : w1.there (w.heap.size + 1) 0 18 := hole_there hb0 ⟨Fm.heap_second' _ _ _, by simp⟩
    go_wp2_with (refine wpList_store_mid rfl 31 (.tmp 4) (.tmp 17) rfl (w.heap.size + 1) 0 #[.slice none 0 0, .slice none 0 0, .int .u8 0, .int .u8 0, .int .u8 0, .int .u8 0, .int .u8 0, .int .u8 0, .int .u8 0, .int .u8 0, .int .u8 0, .int .u8 0, .int .u8 0, .int .u8 0, .int .u8 0, .int .u8 0, .int .u8 0, .int .u8 0] ?hx ?hy ?ht ?hi ?h1 ?h; (case hx => rfl); (case hy => rfl); (case ht => exact World.there_alloc hth _); (case hi => kernel_rfl); (case h1 => simp [Value.oneCell']))
    have HB0 : Below w.heap.size w (w1.alloc (.cells #[.slice A1 (Fz.newF bits).length c1] 24)) := hb1.alloc (by omega) _
    obtain ⟨W2, hW2⟩ : ∃ W2, W2 = (w1.alloc (.cells #[.slice A1 (Fz.newF bits).length c1] 24)).setCells (w.heap.size + 1) 0 (#[.slice none 0 0, .slice none 0 0, .int .u8 0, .int .u8 0, .int .u8 0, .int .u8 0, .int .u8 0, .int .u8 0, .int .u8 0, .int .u8 0, .int .u8 0, .int .u8 0, .int .u8 0, .int .u8 0, .int .u8 0, .int .u8 0, .int .u8 0, .int .u8 0] : Array Value).toList := ⟨_, rfl⟩
    have HR : W2.rangeAt (w.heap.size + 1) 0 (#[.slice none 0 0, .slice none 0 0, .int .u8 0, .int .u8 0, .int .u8 0, .int .u8 0, .int .u8 0, .int .u8 0, .int .u8 0, .int .u8 0, .int .u8 0, .int .u8 0, .int .u8 0, .int .u8 0, .int .u8 0, .int .u8 0, .int .u8 0, .int .u8 0] : Array Value).toList := by rw [hW2]; exact World.rangeAt_setCells_same _ _ _ _ (World.there_alloc hth _)
    have HB : Below w.heap.size w W2 := by rw [hW2]; exact below_setCells HB0 (by omega) _ _
    change bodyPost _ _ _ _ _ ((w1.alloc (.cells #[.slice A1 (Fz.newF bits).length c1] 24)).setCells (w.heap.size + 1) 0 (#[.slice none 0 0, .slice none 0 0, .int .u8 0, .int .u8 0, .int .u8 0, .int .u8 0, .int .u8 0, .int .u8 0, .int .u8 0, .int .u8 0, .int .u8 0, .int .u8 0, .int .u8 0, .int .u8 0, .int .u8 0, .int .u8 0, .int .u8 0, .int .u8 0] : Array Value).toList)
    rw [← hW2]
    clear hW2 HB0
    refine bodyPost_ret (v := .tuple #[.agg #[.slice none 0 0, .slice none 0 0, .int .u8 0, .int .u8 0, .int .u8 0, .int .u8 0, .int .u8 0, .int .u8 0, .int .u8 0, .int .u8 0, .int .u8 0, .int .u8 0, .int .u8 0, .int .u8 0, .int .u8 0, .int .u8 0, .int .u8 0, .int .u8 0], .int .i64 1]) ?_ rfl ⟨.slice none 0 0, .slice none 0 0, ?_, ?_, ?_, HB⟩
    · simp [results, Try.results13, asAddr, run_loadVar_mid (P := Try.prog) W2 (w.heap.size + 1) 0 31 _ _ HR Try.underlying31 rfl (by kernel_rfl)]
    · rw [H1.out]; simp only [newRoot, H3.out]; rfl
    · rw [H2.out]; exact rowsK_nil _ _
    · rw [show newFlash bits = [] by simp [newFlash, H3.out]]; exact strsK_nil _ _
  · have hyes := new_yes hok
    have H1 := Lib.hid hyes.1
    have H3 := Lib.hid hok
    clear hyes hok
    go_enter Try.func13, Try.ntmps13
    go_wp2_with fail
    refine (rnewK_any _ bits _ ((hv.below (hB _ _)).more (hB _ _).size)).mono ?_
    rintro e w1 ⟨v1, rfl, hf1, hb1⟩
    rw [H1.out]
    obtain ⟨A1, c1, rfl⟩ := hf1.form_
    have hb0 := hb1.block (w.heap.size + 1) (by simp)
    have hth0 : w1.there (w.heap.size + 1) 0 18 := hole_there hb0 ⟨Fm.heap_second' _ _ _, by simp⟩
    have hrg0 : w1.rangeAt w.heap.size 0 (#[.int .u8 (r 0), .int .u8 (r 1), .int .u8 (r 2), .int .u8 (r 3), .int .u8 (r 4), .int .u8 (r 5), .int .u8 (r 6), .int .u8 (r 7), .int .u8 (r 8), .int .u8 (r 9), .int .u8 (r 10), .int .u8 (r 11), .int .u8 (r 12), .int .u8 (r 13), .int .u8 (r 14), .int .u8 (r 15)] : Array Value).toList := range_block ((hb1.block w.heap.size (by simp; omega)).trans ((Below.heap_alloc _ _ _ (by simp)).trans (heap_alloc_new _ _)))
    have hz1 := hb1.size
    simp only [World.size_alloc] at hz1
    have hb1 := (hB _ _).trans (hb1.mono (hB _ _).size)
    have h2 : w.heap.size + 1 < w1.heap.size := by omega
    go_wp2_with fail
    refine (frnewK_any 128 _).mono ?_
    rintro e w2 ⟨u1, rfl, hm2, hb2⟩
    rw [show Fm.Fl.newE 128 = 0 by decide]
    obtain ⟨A3, c3, rfl⟩ := hm2.form_
    have HF2 := Lib.hid (hf1.below ((Below.new _).trans (hb2.mono (by simp))))
    have HM2 := Lib.hid hm2
    clear hm2
    have hz2 := hb2.size
    simp only [World.size_alloc] at hz2
    have cF : w2.cell? ⟨w1.heap.size, 0, none⟩ = some (.slice A1 (Fz.newF bits).length c1) := (hb2.cell (p := ⟨w1.heap.size, 0, none⟩) (by simp)).trans (by simp)
    have hb12 : Below w1.heap.size w1 w2 := (Below.new _).trans (hb2.mono (by simp))
    have hth := World.there_alloc (there_below hth0 hb12 h2) (.cells #[.slice A3 (Fm.Fl.newF 128).length c3] 27)
    have hrg := World.rangeAt_alloc (range_below hrg0 hb12 (by omega)) (.cells #[.slice A3 (Fm.Fl.newF 128).length c3] 27)
    have hb2 := hb1.trans (hb12.mono (by omega))
    have h3 : w1.heap.size < w2.heap.size := by omega
    clear hf1 hth0 hrg0 hb0 hb12
    have HB0 : Below w.heap.size w (w2.alloc (.cells #[.slice A3 (Fm.Fl.newF 128).length c3] 27)) := hb2.alloc (by omega) _
    have HT := Lib.hid hth
    have HG := Lib.hid hrg
    clear hth hrg
    go_upto_region 5 with fail
    refine wp_region_list ?_
    simp only []
    refine wpList_load_mid rfl 24 (.tmp 6) rfl w1.heap.size 0 rfl [.slice A1 (Fz.newF bits).length c1] _ (range_one (cell_alloc cF _)) Try.underlying24 rfl (by kernel_rfl) ?_
    refine wpList_load_mid rfl 27 (.tmp 8) rfl w2.heap.size 0 rfl [.slice A3 (Fm.Fl.newF 128).length c3] _ (range_one (cell_of_one (heap_alloc_new _ _))) Try.underlying27 rfl (by kernel_rfl) ?_
    refine wpList_load_mid rfl 29 (.tmp 2) rfl w.heap.size 0 rfl (#[.int .u8 (r 0), .int .u8 (r 1), .int .u8 (r 2), .int .u8 (r 3), .int .u8 (r 4), .int .u8 (r 5), .int .u8 (r 6), .int .u8 (r 7), .int .u8 (r 8), .int .u8 (r 9), .int .u8 (r 10), .int .u8 (r 11), .int .u8 (r 12), .int .u8 (r 13), .int .u8 (r 14), .int .u8 (r 15)] : Array Value).toList _ HG.out Try.underlying29 rfl (by kernel_rfl) ?_
    refine wpList_plain rfl fun K1 hK1 => ?_
    simp [Oper.wp, execOp, go_sem, Act.eval, Act.put]
    refine hK1 _ _ ?_
    refine wpList_store_mid rfl 31 (.tmp 4) (.tmp 26) rfl (w.heap.size + 1) 0 #[.slice A1 (Fz.newF bits).length c1, .slice A3 (Fm.Fl.newF 128).length c3, .int .u8 (r 0), .int .u8 (r 1), .int .u8 (r 2), .int .u8 (r 3), .int .u8 (r 4), .int .u8 (r 5), .int .u8 (r 6), .int .u8 (r 7), .int .u8 (r 8), .int .u8 (r 9), .int .u8 (r 10), .int .u8 (r 11), .int .u8 (r 12), .int .u8 (r 13), .int .u8 (r 14), .int .u8 (r 15)] rfl rfl HT.out (by kernel_rfl) (by simp [Value.oneCell']) ?_
    obtain ⟨W2, hW2⟩ : ∃ W2, W2 = (w2.alloc (.cells #[.slice A3 (Fm.Fl.newF 128).length c3] 27)).setCells (w.heap.size + 1) 0 (#[.slice A1 (Fz.newF bits).length c1, .slice A3 (Fm.Fl.newF 128).length c3, .int .u8 (r 0), .int .u8 (r 1), .int .u8 (r 2), .int .u8 (r 3), .int .u8 (r 4), .int .u8 (r 5), .int .u8 (r 6), .int .u8 (r 7), .int .u8 (r 8), .int .u8 (r 9), .int .u8 (r 10), .int .u8 (r 11), .int .u8 (r 12), .int .u8 (r 13), .int .u8 (r 14), .int .u8 (r 15)] : Array Value).toList := ⟨_, rfl⟩
    have HR : W2.rangeAt (w.heap.size + 1) 0 (#[.slice A1 (Fz.newF bits).length c1, .slice A3 (Fm.Fl.newF 128).length c3, .int .u8 (r 0), .int .u8 (r 1), .int .u8 (r 2), .int .u8 (r 3), .int .u8 (r 4), .int .u8 (r 5), .int .u8 (r 6), .int .u8 (r 7), .int .u8 (r 8), .int .u8 (r 9), .int .u8 (r 10), .int .u8 (r 11), .int .u8 (r 12), .int .u8 (r 13), .int .u8 (r 14), .int .u8 (r 15)] : Array Value).toList := by rw [hW2]; exact World.rangeAt_setCells_same _ _ _ _ HT.out
    have HB : Below w.heap.size w W2 := by rw [hW2]; exact below_setCells HB0 (by omega) _ _
    have HU : ∀ b, w.heap.size + 2 ≤ b ∧ b < w2.heap.size → W2.heap[b]? = w2.heap[b]? := fun b hb => by rw [hW2]; exact (heap_setCells _ _ _ _ _ (by omega)).trans (Below.heap_alloc _ _ _ hb.2)
    rw [← hW2]
    have HR := Lib.hid HR
    have HU := Lib.hid HU
    clear hW2 HB0 HT HG hK1
    go_wp2
    refine bodyPost_ret (v := .tuple #[.agg #[.slice A1 (Fz.newF bits).length c1, .slice A3 (Fm.Fl.newF 128).length c3, .int .u8 (r 0), .int .u8 (r 1), .int .u8 (r 2), .int .u8 (r 3), .int .u8 (r 4), .int .u8 (r 5), .int .u8 (r 6), .int .u8 (r 7), .int .u8 (r 8), .int .u8 (r 9), .int .u8 (r 10), .int .u8 (r 11), .int .u8 (r 12), .int .u8 (r 13), .int .u8 (r 14), .int .u8 (r 15)], .int .i64 0]) ?_ rfl ⟨.slice A1 (Fz.newF bits).length c1, .slice A3 (Fm.Fl.newF 128).length c3, ?_, ?_, ?_, HB⟩
    · simp [results, Try.results13, asAddr, run_loadVar_mid (P := Try.prog) W2 (w.heap.size + 1) 0 31 _ _ HR.out Try.underlying31 rfl (by kernel_rfl)]
    · rw [H1.out]; simp only [newRoot, H3.out]; rfl
    · exact HF2.out.bnd.keep (fun b hb => HU.out b ⟨by have := hb.1; simp at this; omega, hb.2⟩) (fun b hb => by have := hb.1; simp at this; show w.heap.size ≤ b; omega)
    · rw [show newFlash bits = Fm.Fl.newF 128 by simp [newFlash, H3.out]]
      exact HM2.out.bnd.keep (fun b hb => HU.out b ⟨by have := hb.1; simp at this; omega, hb.2⟩) (fun b hb => by have := hb.1; simp at this; show w.heap.size ≤ b; omega)

end Go.Proofs.Ytncgechmloekbaa
