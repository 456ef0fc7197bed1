/- Chapter 38: rows of bytes that a call owns; wire.Int, wire.Bytes. | Chapter 38: package sha: join, and the library's Clone of a row of bytes. -/
import Derived.Test.YtdeccekeknlnoaaGreatDoorJShA
import Derived.Maps.AppendAt
import Derived.Lib.AppendStr
import Derived.OwnWalk
import Derived.Deep.AppendLies
import Derived.Deep.LoopGhost
import Derived.Outline
import Derived.Lib.ConvBytes
import Derived.Lib.SlBytesRow
import Derived.WalkSpells
import Derived.Lib.SliceRun
namespace Go.Proofs.YtdeccekeknlnoaaGreatDoor
open Go.RowKit
def b8 (bs : List Nat) : List Value := bs.map fun (b : Nat) => Value.int .u8 (b : Int)
theorem b8_len (bs : List Nat) : (b8 bs).length = bs.length := by simp [b8]
theorem b8_append (a b : List Nat) : b8 (a ++ b) = b8 a ++ b8 b := by simp [b8]
theorem b8_one (bs : List Nat) : ∀ u ∈ b8 bs, u.oneCell' = true := by
  intro u hu
  simp only [b8, List.mem_map] at hu
  obtain ⟨b, _, rfl⟩ := hu
  rfl
/-- a slice of bytes that owns its row, in a block from B on -/
def OB (w : World) (B : Nat) (v : Value) (bs : List Nat) : Prop := w.ownsRow B 5 1 v bs.length (b8 bs)
def OutB (bs : List Nat) (w : World) (e : Ending) (w' : World) : Prop := ∃ v, e = .returned v ∧ OB w' w.heap.size v bs ∧ Below w.heap.size w w'
def OutOB (B : Nat) (bs : List Nat) (w : World) (e : Ending) (w' : World) : Prop := ∃ v, e = .returned v ∧ OB w' B v bs ∧ Below B w w'
theorem u8i : (Tryz.prog.info? 5).map (fun i => (i.zero, i.size, i.bytes)) = some (some (.int .u8 0), 1, 1) := by kernel_rfl
theorem grown_below {B : Nat} {w w' : World} {v : Value} {e : TypeId} {n : Nat} {xs : List Value} {s : Nat} (h : w.grownBy w' v.ownBlock) (ho : w.ownsRow B e s v n xs) (hB : B ≤ w.heap.size) : Below B w w' :=
  ⟨h.os, h.tape, h.output, h.size, fun k hk => h.block k (by omega) (fun e => by
      have := (ho.lt k e.symm).1
      omega)⟩
/-- append(b, x): one byte that lies in a block of its own -/
theorem ap8 {ops : Array Oper} {rest : List Oper} {o : Oper} {a : Act} {Q : Exit → Act → World → Prop} {w : World} (hgd : o.guard = none) (s x : Operand)
    (ho : o.op = .call { callee := .builtin .append, args := #[s, x], argTypes := #[52, 52] })
    (base : Nat) (v : Value) (bs : List Nat) (hs : a.eval s = v) (hown : OB w base v bs)
    (ad : Addr) (m c : Nat) (news : List Nat) (hx : a.eval x = .slice (some ad) m c) (hl : news.length = m) (hnews : ∀ j u, (b8 news)[j]? = some u → w.cell? (ad.add j) = some u)
    (h63 : bs.length + m ≤ 1000000) (hbase : base ≤ w.heap.size)
    (h : ∀ v' w', OB w' base v' (bs ++ news) → Below base w w' → wpList Tryz.prog ops Q rest (a.put o.dst v') w') : wpList Tryz.prog ops Q (o :: rest) a w := by
  obtain ⟨i0, hi, hz0, hz1, hz2⟩ := info_parts u8i
  refine wpList_append_own_at w hgd s x 52 ho base 5 i0 (.int .u8 0) 1 1 Tryz.underlying52 hi hz0 hz1 hz2 rfl (by decide) v bs.length (b8 bs) hs hown ad m c (b8 news) hx (by rw [b8_len, hl]; simp) hnews (b8_one _) (by unfold maxLen; omega) (by omega) hbase ?_
  intro v' w' h1 h2 _ _
  exact h v' w' (by unfold OB; rw [b8_append, List.length_append, hl]; exact h1) (grown_below h2 hown hbase)
/-- append(b, s...), s a string -/
theorem ap8s {ops : Array Oper} {rest : List Oper} {o : Oper} {a : Act} {Q : Exit → Act → World → Prop} {w : World} (hgd : o.guard = none) (s x : Operand)
    (ho : o.op = .call { callee := .builtin .append, args := #[s, x], argTypes := #[52, 9] })
    (base : Nat) (v : Value) (bs : List Nat) (hs : a.eval s = v) (hown : OB w base v bs)
    (t : ByteArray) (hx : a.eval x = .string t) (h63 : bs.length + t.size ≤ 1000000) (hbase : base ≤ w.heap.size)
    (h : ∀ v' w', OB w' base v' (bs ++ t.data.toList.map (·.toNat)) → Below base w w' → wpList Tryz.prog ops Q rest (a.put o.dst v') w') : wpList Tryz.prog ops Q (o :: rest) a w := by
  obtain ⟨i0, hi, hz0, hz1, hz2⟩ := info_parts u8i
  refine Lib.wpList_append_own_string w hgd s x 52 9 ho base 5 i0 Tryz.underlying52 Tryz.underlying9 hi hz0 hz1 hz2 v bs.length (b8 bs) hs hown t hx (by unfold maxLen; omega) (by omega) hbase ?_
  intro v' w' h1 h2 _
  refine h v' w' ?_ (grown_below h2 hown hbase)
  unfold OB
  have e : b8 (t.data.toList.map (·.toNat)) = Lib.strCells t := by simp [b8, Lib.strCells]
  rw [b8_append, e, List.length_append, List.length_map, show t.data.toList.length = t.size by simp]
  exact h1
theorem OB.nil (w : World) (B : Nat) : OB w B (.slice none 0 0) [] := World.ownsRow_nil _ _ _ _
theorem OB.below {w w' : World} {B : Nat} {v : Value} {bs : List Nat} (h : OB w B v bs) (hb : Below w.heap.size w w') : OB w' B v bs := by
  refine ⟨h.1, ?_⟩
  rcases h.2 with h1 | ⟨g, cap, cur, h1, h2, h3, h4⟩
  · exact .inl h1
  · refine .inr ⟨g, cap, cur, h1, h2, (hb.block g ?_).trans h3, h4⟩
    exact (h.lt g (by rw [h1]; rfl)).2
theorem OB.mono {w : World} {B C : Nat} {v : Value} {bs : List Nat} (h : OB w C v bs) (hb : B ≤ C) : OB w B v bs := by
  refine ⟨h.1, ?_⟩
  rcases h.2 with h1 | ⟨g, cap, cur, h1, h2, h3⟩
  · exact .inl h1
  · exact .inr ⟨g, cap, cur, h1, Nat.le_trans hb h2, h3⟩
set_option maxRecDepth 100000 in
set_option maxHeartbeats 1000000 in
theorem wire_int (n : Nat) (hn : n < 64) (w : World) : Calls Tryz.prog 104 #[.int .i64 n] w (OutB [2 * n] w) := by
  go_enter Tryz.func104, Tryz.ntmps104
  have h1 : IntKind.u64.wrap (n : Int) = n := by simp [IntKind.wrap_u64]; omega
  have h2 : (n : Int) * 2 < 128 := by omega
  have h3 : IntKind.u8.wrap ((n : Int) * 2) = ((2 * n : Nat) : Int) := by simp [IntKind.wrap_u8]; omega
  have h4 : (n : Int) * 2 % 256 = ((2 * n : Nat) : Int) := by omega
  have H0 := Lib.hid (OB.nil w w.heap.size)
  have HN := Lib.hid (World.news_of_block (heap_alloc_new w (.cells (b8 [2 * n]).toArray 5)))
  go_wp2_with fail
  go_step3
  go_wp2_with fail
  go_step3
  go_wp2_with fail
  refine wp_loop_rounds 1 ?_
  rw [rounds_succ]
  go_wp2_with (at_builtin; refine ap8 rfl _ _ rfl w.heap.size _ [] (by rfl) (H0.out.below (Below.new _)) ⟨w.heap.size, 0, none⟩ 1 1 [2 * n] (by rfl) rfl HN.out (by simp) (by simp) ?_; intro v' w1 hown1 hb1; have HO := Lib.hid hown1; have HB := Lib.hid hb1; clear hown1 hb1)
  rw [Exit.noGoto_ret]
  go_ret
  exact ⟨_, rfl, HO.out, (Below.new _).trans (HB.out.mono (Nat.le_refl _))⟩
set_option maxRecDepth 100000 in
set_option maxHeartbeats 1000000 in
theorem wire_bytes (s : ByteArray) (hs : s.size < 64) (w : World) : Calls Tryz.prog 95 #[.string s] w (OutB (2 * s.size :: s.data.toList.map (·.toNat)) w) := by
  have HS := Lib.hid hs
  go_enter Tryz.func95, Tryz.ntmps95
  go_wp2_with fail
  refine (wire_int s.size HS.out w).mono ?_
  rintro e w1 ⟨v, rfl, ho, hb⟩
  have HO := Lib.hid ho
  have HB := Lib.hid hb
  have HZ := Lib.hid hb.size
  clear ho hb hs
  go_wp2_with (at_builtin; refine ap8s rfl _ _ rfl w.heap.size v [2 * s.size] (by rfl) HO.out s (by rfl) (by simp; have := HS.out; omega) HZ.out ?_; intro v' w2 hown1 hb1; have HO2 := Lib.hid hown1; have HB2 := Lib.hid hb1; clear hown1 hb1)
  go_ret
  exact ⟨_, rfl, HO2.out, HB.out.trans HB2.out⟩
/-- the bytes of a number, the most significant first -/
def beB (n many : Nat) : List Nat := (List.range many).map fun j => n / 2 ^ (8 * (many - 1 - j)) % 256
theorem beB_len (n many : Nat) : (beB n many).length = many := by simp [beB]
theorem beB_next {n many k i : Nat} (h : i + k + 1 = many) : (beB n many).take (k + 1) = (beB n many).take k ++ [n / 2 ^ (8 * i) % 256] := by
  rw [List.take_succ_eq_append_getElem (by rw [beB_len]; omega)]
  congr 1
  simp only [beB, List.getElem_map, List.getElem_range]
  rw [show many - 1 - k = i by omega]
theorem sh_right (n i : Nat) (hi : i < 8) (w : World) : Sem.run Tryz.prog (Op.shift .shr .u64 (n : Int) .i64 (8 * (i : Int))) w = .ok (.int .u64 ((n / 2 ^ (8 * i) : Nat) : Int)) w := by
  have h1 : ¬ (8 * (i : Int)) < 0 := by omega
  have h2 : min (8 * (i : Int)).toNat IntKind.u64.bits = 8 * i := by
    have : (8 * (i : Int)).toNat = 8 * i := by omega
    rw [this]
    have : IntKind.u64.bits = 64 := rfl
    omega
  unfold Op.shift
  rw [if_neg h1, h2]
  have h3 : (2 : Int) ^ (8 * i) = ((2 ^ (8 * i) : Nat) : Int) := by simp
  show Result.ok (Value.int IntKind.u64 ((n : Int).fdiv (2 ^ (8 * i)))) w = _
  rw [h3, Int.fdiv_eq_ediv_of_nonneg _ (Int.natCast_nonneg _), Int.natCast_ediv]
set_option maxRecDepth 100000 in
set_option maxHeartbeats 1000000 in
theorem sha_store (n many : Nat) (hm : 0 < many) (hm8 : many ≤ 8) (v : Value) (bs : List Nat) (hbs : bs.length ≤ 1000) (B : Nat) (w : World) (hB : B ≤ w.heap.size) (hv : OB w B v bs) :
    Calls Tryz.prog 92 #[v, .int .u64 n, .int .i64 many] w (OutOB B (bs ++ beB n many) w) := by
  have HV := Lib.hid hv
  have HBB := Lib.hid hB
  have HL := Lib.hid hbs
  have HM := Lib.hid (And.intro hm hm8)
  have m1 : (0 : Int) < many := by omega
  have m2 : (many : Int) ≤ 8 := by omega
  clear hv hB hbs hm hm8
  go_enter Tryz.func92, Tryz.ntmps92
  go_wp2_with fail
  go_loopg [0, 7] many (fun g s0 s7 wr => ∃ (k : Nat) (v' : Value), k + g = many ∧ s0 = v' ∧ s7 = .int .i64 ((many : Int) - 1 - k) ∧ Hid (OB wr B v' (bs ++ (beB n many).take k)) ∧ Hid (Below B w wr))
  case atStart => exact ⟨0, v, by omega, rfl, by simp, Lib.hid (by simpa using HV.out), Lib.hid (Below.refl _ _)⟩
  case round =>
    clear HV
    obtain ⟨k, v', hkg, rfl, rfl, HO, HB⟩ := hrel
    cases gk with
    | zero =>
      have e : (many : Int) - 1 - k = -1 := by omega
      rw [e]
      have HK := Lib.hid hkg
      clear hkg e
      go_wp2_with fail
      go_ret
      exact ⟨_, rfl, by have := HO.out; rwa [List.take_of_length_le (by rw [beB_len]; have := HK.out; omega)] at this, HB.out⟩
    | succ g =>
      obtain ⟨i, hi⟩ : ∃ i : Nat, (many : Int) - 1 - k = i := ⟨many - 1 - k, by omega⟩
      have HI := Lib.hid (show i + k + 1 = many by omega)
      rw [hi]
      have i8 : (i : Int) < 8 := by omega
      have HK := Lib.hid hkg
      have HQ := Lib.hid (show (beB n many).take (k + 1) = (beB n many).take k ++ [n / 2 ^ (8 * i) % 256] from beB_next HI.out)
      obtain ⟨y, hy⟩ : ∃ y : Nat, n / 2 ^ (8 * i) % 256 = y := ⟨_, rfl⟩
      have hc3 : (n : Int) / 2 ^ (8 * i) % 256 = (y : Int) := by rw [← hy, Int.natCast_emod, Int.natCast_ediv, Int.natCast_pow]; rfl
      rw [hy] at HQ
      clear hy
      have HN := Lib.hid (World.news_of_block (heap_alloc_new wr (.cells (b8 [y]).toArray 5)))
      have HB1 := Lib.hid (HB.out.size)
      have HLL := Lib.hid (show (bs ++ (beB n many).take k).length + 1 ≤ 1000000 by have := HL.out; have := HM.out.2; simp [beB_len]; omega)
      have HI2 := Lib.hid (show (many : Int) - 1 - ((k + 1 : Nat) : Int) = (i : Int) - 1 by have := HI.out; omega)
      clear hi hkg
      go_wp2_with (at_builtin; refine ap8 rfl _ _ rfl B _ _ (by rfl) (HO.out.below (Below.new _)) ⟨wr.heap.size, 0, none⟩ 1 1 [y] (by rfl) rfl HN.out HLL.out (by have := HB1.out; have := HBB.out; simp; omega) ?_; intro v2 w2 hown1 hb1; have HO2 := Lib.hid hown1; have HB2 := Lib.hid hb1; clear hown1 hb1)
      go_roundg g
      case measure => omega
      case rel => exact ⟨k + 1, _, by have := HK.out; omega, rfl, by rw [HI2.out], Lib.hid (by rw [HQ.out, ← List.append_assoc]; exact HO2.out), Lib.hid (HB.out.trans (((Below.new _).mono (by have := HB1.out; have := HBB.out; omega)).trans HB2.out))⟩
end Go.Proofs.YtdeccekeknlnoaaGreatDoor

namespace Go.Proofs.YtdeccekeknlnoaaGreatDoor
open Go.RowKit
def bts (s : ByteArray) : List Nat := s.data.toList.map (·.toNat)
theorem bts_len (s : ByteArray) : (bts s).length = s.size := by simp [bts]
theorem OB.form {w : World} {B : Nat} {v : Value} {bs : List Nat} (h : OB w B v bs) {n : Nat} (hl : bs.length = n) (hn : 0 < n) : ∃ g cap, v = .slice (some ⟨g, 0, none⟩) n cap ∧ B ≤ g ∧ g < w.heap.size ∧ n ≤ cap ∧ cap ≤ maxLen ∧ ∀ j u, (b8 bs)[j]? = some u → w.cell? ((⟨g, 0, none⟩ : Addr).add j) = some u := by
  subst hl
  rcases h.2 with ⟨h1, h2⟩ | ⟨g, cap, cur, h1, h2, h3, h4, h5, h6⟩
  · omega
  · exact ⟨g, cap, h1, h2, (h.lt g (by rw [h1]; rfl)).2, h4, h5, World.ownsRow.cells h (by rw [h1]; rfl)⟩
set_option maxRecDepth 100000 in
set_option maxHeartbeats 1000000 in
theorem sha_join (tag : Nat) (vb : Value) (s : ByteArray) (hs : s.size < 64) (pb pc tb tc : Nat) (B : Nat) (w : World) (hB : B ≤ w.heap.size) (hv : OB w B vb [tag])
    (hp : w.cell? ⟨pb, 0, none⟩ = some (.slice (some ⟨tb, 0, none⟩) s.size tc)) (ht : Lib.Bytes w tb 0 s) :
    Calls Tryz.prog 58 #[vb, .slice (some ⟨pb, 0, none⟩) 1 pc] w (OutOB B (tag :: 2 * s.size :: bts s) w) := by
  obtain ⟨gb, cb, rfl, -⟩ := hv.form (n := 1) rfl (by decide)
  have HV := Lib.hid hv
  have HB := Lib.hid hB
  have HS := Lib.hid hs
  obtain ⟨n, hn⟩ : ∃ n, (2 * s.size :: s.data.toList.map (·.toNat)).length = n := ⟨_, rfl⟩
  have HNN := Lib.hid hn
  have HNL := Lib.hid (show n ≤ 64 ∧ 0 < n by rw [← hn]; simp; omega)
  clear hn
  have hcv : ∀ W : World, Lib.Bytes W tb 0 s → Sem.run Tryz.prog (convert 52 9 (.slice (some ⟨tb, 0, none⟩) s.size tc)) W = .ok (.string s) W := fun W h => Lib.run_convert_whole W 52 5 9 Tryz.underlying52 Tryz.underlying5 Tryz.underlying9 tb 0 s h tc
  have hc0 := hcv w ht
  clear hcv ht hv hB hs
  go_enter Tryz.func58, Tryz.ntmps58
  go_wp2_with fail
  refine wp_loop_rounds 2 ?_
  rw [rounds_succ]
  go_wp2_with fail
  refine (wire_bytes s HS.out w).mono ?_
  rintro e w1 ⟨v1, rfl, ho1, hb1⟩
  obtain ⟨g, cap, rfl, hg1, hg2, hg3, hg4, hnews⟩ := ho1.form HNN.out HNL.out.2
  have HO1 := Lib.hid (HV.out.below (hb1.mono (Nat.le_refl _)))
  have HN := Lib.hid hnews
  have HZ := Lib.hid (And.intro hb1.size (hb1.mono HB.out))
  clear ho1 hb1 hg1 hg2 hg3 hg4 hnews hc0 hp
  go_wp2_with (at_builtin; refine ap8 rfl _ _ rfl B _ [tag] (by rfl) HO1.out ⟨g, 0, none⟩ n cap (2 * s.size :: s.data.toList.map (·.toNat)) (by rfl) HNN.out HN.out (by have := HNL.out; simp; omega) (by have := HZ.out.1; have := HB.out; omega) ?_; intro v' w2 hown2 hb2; have HO2 := Lib.hid hown2; have HB2 := Lib.hid hb2; clear hown2 hb2)
  rw [rounds_succ]
  go_wp2_with fail
  go_ret
  exact ⟨_, rfl, HO2.out, HZ.out.2.trans HB2.out⟩
set_option maxRecDepth 100000 in
set_option maxHeartbeats 1000000 in
theorem sha_clone (v : Value) (bs : List Nat) (h0 : 0 < bs.length) (h1 : bs.length ≤ 1000) (B : Nat) (w : World) (_hB : B ≤ w.heap.size) (hv : OB w B v bs) :
    Calls Tryz.prog 91 #[v] w (OutB bs w) := by
  obtain ⟨n, hn⟩ : ∃ n, bs.length = n := ⟨_, rfl⟩
  obtain ⟨g, cap, rfl, hg1, hg2, hg3, hg4, hnews⟩ := hv.form hn (by omega)
  have hE : OB (w.alloc (.cells #[] 5)) w.heap.size (.slice (some ⟨w.heap.size, 0, none⟩) 0 0) [] := World.ownsRow_made w #[] 0 (Nat.le_refl _) (by simp [maxLen]) rfl
  have HE := Lib.hid hE
  have HN := Lib.hid (show ∀ j u, (b8 bs)[j]? = some u → (w.alloc (.cells #[] 5)).cell? ((⟨g, 0, none⟩ : Addr).add j) = some u from fun j u hu => by
    have e := hnews j u hu
    have hadd : (⟨g, 0, none⟩ : Addr).add j = ⟨g, j, none⟩ := by unfold Addr.add; split <;> simp_all
    rw [hadd] at e ⊢
    exact ((Below.new _).cell (p := ⟨g, j, none⟩) hg2).trans e)
  have HL := Lib.hid (And.intro hn h1)
  have heq := Lib.run_eql_slice_nil (P := Tryz.prog) w 52 5 (some ⟨g, 0, none⟩) n cap 0 0 Tryz.underlying52
  clear hE hnews hv hg1 hg2 hg3 hg4 h0 h1 hn
  go_enter Tryz.func91, Tryz.ntmps91
  go_wp2_with (at_builtin; refine ap8 rfl _ _ rfl w.heap.size _ [] (by rfl) HE.out ⟨g, 0, none⟩ n cap bs (by rfl) HL.out.1 HN.out (by have := HL.out; simp; omega) (by simp) ?_; intro v' w2 hown2 hb2; have HO2 := Lib.hid hown2; have HB2 := Lib.hid hb2; clear hown2 hb2)
  go_ret
  exact ⟨_, rfl, HO2.out, (Below.new _).trans HB2.out⟩
end Go.Proofs.YtdeccekeknlnoaaGreatDoor
