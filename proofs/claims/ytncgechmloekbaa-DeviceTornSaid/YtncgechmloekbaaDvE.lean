/- Device: the table of accesses; the closures that test an access. -/
import Derived.Test.YtncgechmloekbaaDvD
import Derived.Test.YtncgechmloekbaaFzR
namespace Go.Proofs.Ytncgechmloekbaa
open Go.RowKit

theorem there_block {W : World} {b n : Nat} {cs : Array Value} {t : TypeId} (h : W.heap[b]? = some (.cells cs t (0, 0))) (hn : n ≤ cs.size) : W.there b 0 n := by
  intro j hj
  constructor
  · simp only [World.cell?, h]
    have : j < cs.size := by omega
    simp [this]
  · simp [World.frozen?, h]
theorem there_new (w : World) (cs : Array Value) (t : TypeId) (n : Nat) (hn : n ≤ cs.size) : (w.alloc (.cells cs t)).there w.heap.size 0 n := there_block (heap_alloc_new w _) hn

set_option maxRecDepth 100000 in
theorem accesses_any (w : World) : Calls Try.prog 22 #[] w fun e w' => e = .returned (.agg #[.nilFunc, .nilFunc, .func (.func 38) #[] #[], .func (.func 39) #[] #[], .func (.func 38) #[] #[], .func (.func 41) #[] #[], .func (.func 43) #[] #[], .func (.func 44) #[] #[], .func (.func 46) #[] #[], .func (.func 47) #[] #[]]) ∧ Below w.heap.size w w' := by
  go_enter Try.func22, Try.ntmps22
  go_upto_region 2 with fail
  refine wp_region_list ?_
  simp only []
  refine wpList_plain rfl fun K1 hK1 => ?_
  simp [Oper.wp, execOp, go_sem, Act.eval, Act.put]
  refine hK1 _ _ ?_
  clear hK1
  refine wpList_plain rfl fun K1 hK1 => ?_
  simp [Oper.wp, execOp, go_sem, Act.eval, Act.put]
  refine hK1 _ _ ?_
  clear hK1
  refine wpList_plain rfl fun K1 hK1 => ?_
  simp [Oper.wp, execOp, go_sem, Act.eval, Act.put]
  refine hK1 _ _ ?_
  clear hK1
  refine wpList_plain rfl fun K1 hK1 => ?_
  simp [Oper.wp, execOp, go_sem, Act.eval, Act.put]
  refine hK1 _ _ ?_
  clear hK1
  refine wpList_plain rfl fun K1 hK1 => ?_
  simp [Oper.wp, execOp, go_sem, Act.eval, Act.put]
  refine hK1 _ _ ?_
  clear hK1
  refine wpList_plain rfl fun K1 hK1 => ?_
  simp [Oper.wp, execOp, go_sem, Act.eval, Act.put]
  refine hK1 _ _ ?_
  clear hK1
  refine wpList_plain rfl fun K1 hK1 => ?_
  simp [Oper.wp, execOp, go_sem, Act.eval, Act.put]
  refine hK1 _ _ ?_
  clear hK1
  have hth : (w.alloc (.cells #[.nilFunc, .nilFunc, .nilFunc, .nilFunc, .nilFunc, .nilFunc, .nilFunc, .nilFunc, .nilFunc, .nilFunc] 65)).there w.heap.size 0 10 := there_new w _ _ _ (by simp)
  refine wpList_store_mid rfl 65 (.tmp 0) (.tmp 8) rfl w.heap.size 0 #[.nilFunc, .nilFunc, .func (.func 38) #[] #[], .func (.func 39) #[] #[], .func (.func 38) #[] #[], .func (.func 41) #[] #[], .func (.func 43) #[] #[], .func (.func 44) #[] #[], .func (.func 46) #[] #[], .func (.func 47) #[] #[]] rfl rfl hth (by kernel_rfl) (by simp [Value.oneCell']) ?_
  obtain ⟨W2, hW2⟩ : ∃ W2, W2 = (w.alloc (.cells #[.nilFunc, .nilFunc, .nilFunc, .nilFunc, .nilFunc, .nilFunc, .nilFunc, .nilFunc, .nilFunc, .nilFunc] 65)).setCells w.heap.size 0 (#[.nilFunc, .nilFunc, .func (.func 38) #[] #[], .func (.func 39) #[] #[], .func (.func 38) #[] #[], .func (.func 41) #[] #[], .func (.func 43) #[] #[], .func (.func 44) #[] #[], .func (.func 46) #[] #[], .func (.func 47) #[] #[]] : Array Value).toList := ⟨_, rfl⟩
  have HR : W2.rangeAt w.heap.size 0 (#[.nilFunc, .nilFunc, .func (.func 38) #[] #[], .func (.func 39) #[] #[], .func (.func 38) #[] #[], .func (.func 41) #[] #[], .func (.func 43) #[] #[], .func (.func 44) #[] #[], .func (.func 46) #[] #[], .func (.func 47) #[] #[]] : Array Value).toList := by rw [hW2]; exact World.rangeAt_setCells_same _ _ _ _ hth
  have HB : Below w.heap.size w W2 := by rw [hW2]; exact below_setCells (Below.new _) (Nat.le_refl _) _ _
  rw [← hW2]
  have HR := Lib.hid HR
  clear hW2 hth
  go_wp2
  refine bodyPost_ret (v := .agg #[.nilFunc, .nilFunc, .func (.func 38) #[] #[], .func (.func 39) #[] #[], .func (.func 38) #[] #[], .func (.func 41) #[] #[], .func (.func 43) #[] #[], .func (.func 44) #[] #[], .func (.func 46) #[] #[], .func (.func 47) #[] #[]]) ?_ rfl ⟨rfl, HB⟩
  simp [results, Try.results22, asAddr, run_loadVar_mid (P := Try.prog) W2 w.heap.size 0 65 _ _ HR.out Try.underlying65 rfl (by kernel_rfl)]

def isEmpty (s : ByteArray) : Bool := s.toList.isEmpty

set_option maxRecDepth 100000 in
theorem valid1_any (k b c : Int) (s : ByteArray) (w : World) : Calls Try.prog 38 #[.agg #[.int .i64 k, .int .i64 b, .int .i64 c, .string s]] w fun e w' => e = .returned (.bool (isEmpty s)) ∧ Below w.heap.size w w' := by
  go_enter Try.func38, Try.ntmps38
  go_wp2
  go_ret
  exact ⟨rfl, Below.new _⟩

set_option maxRecDepth 100000 in
theorem valid4_any (k b c : Int) (s : ByteArray) (w : World) : Calls Try.prog 43 #[.agg #[.int .i64 k, .int .i64 b, .int .i64 c, .string s]] w fun e w' => e = .returned (.bool (isEmpty s && b == 0)) ∧ Below w.heap.size w w' := by
  cases he : s.toList.isEmpty
  · go_enter Try.func43, Try.ntmps43
    go_wp2
    go_ret
    exact ⟨ret_bool (by simp [isEmpty, he]), Below.new _⟩
  · go_enter Try.func43, Try.ntmps43
    go_wp2
    go_ret
    exact ⟨ret_bool (by simp [isEmpty, he]), Below.new _⟩

set_option maxRecDepth 100000 in
theorem valid6_any (k b c : Int) (s : ByteArray) (w : World) : Calls Try.prog 46 #[.agg #[.int .i64 k, .int .i64 b, .int .i64 c, .string s]] w fun e w' => e = .returned (.bool (b == 0)) ∧ Below w.heap.size w w' := by
  go_enter Try.func46, Try.ntmps46
  go_wp2
  go_ret
  exact ⟨rfl, Below.new _⟩

end Go.Proofs.Ytncgechmloekbaa
