/- Aead: published. -/
import Derived.Test.YtklclbppdoahjaaAe6
import Derived.Test.YtklclbppdoahjaaOrd5
namespace Go.Proofs.Ytklclbppdoahjaa
set_option maxRecDepth 100000
open Go.RowKit
attribute [local go_sem] yld yldUpon_value

theorem fillSeq_bytes : ∀ (L : List UInt8) (k : Nat), FillSeq (fun k => some (k * 1, 1)) ((L.zipIdx k).map fun x => (x.2, bv x.1)) k
  | [], _ => trivial
  | b :: L, k => ⟨by simp [Value.cells, bv], fillSeq_bytes L (k + 1)⟩
theorem partCells_bytes : ∀ (L : List UInt8) (k : Nat), partCells ((L.zipIdx k).map fun x => (x.2, bv x.1)) = bs L
  | [], _ => rfl
  | b :: L, k => by
    have ih := partCells_bytes L (k + 1)
    simp only [partCells, List.zipIdx_cons, List.map_cons, List.flatMap_cons] at ih ⊢
    rw [ih]
    rfl
theorem run_buildSlice_bytes {P : Program} (w : World) (t e : TypeId) (i : TypeInfo) (L : List UInt8) (n : Nat) (hn : L.length = n) (hn1 : 0 < n ∧ n ≤ 16777216) (ht : P.underlying t = some (.slice e)) (hi : P.info? e = some i) (hz : i.zero = some (.int .u8 0)) (hs : i.size = 1) :
    (Instr.buildSlice t n ((L.zipIdx 0).map fun x => (x.2, bv x.1)).toArray).run P w = .ok (.slice (some ⟨w.heap.size, 0, none⟩) n n) (w.alloc (.cells (bs L).toArray e)) := by
  have hf := fill_seq (fun k => some (k * 1, 1)) ((L.zipIdx 0).map fun x => (x.2, bv x.1)) [] ((Array.range n).map (fun _ => (Value.int .u8 0))).toList
    (fillSeq_bytes L 0) (by rw [partCells_bytes, bs_length]; simp [hn])
  simp only [List.nil_append, Array.toArray_toList, partCells_bytes] at hf
  unfold Instr.buildSlice
  simp [run_underlying ht, sizeOf, typeInfo, hi, zeroValue, hz, hs, Value.cells, show ¬ 16777216 < n by omega, show ¬ n = 0 by omega, Nat.mod_one, newRow]
  simp at hf
  simp [hf]
theorem wp_buildSlice_bytes {P : Program} {o : Oper} {a : Act} {w : World} {K : Act → World → Prop} {Q : Exit → Act → World → Prop} (t e : TypeId) (n : Nat) (parts : List (Nat × Operand)) (i : TypeInfo) (L : List UInt8) (ho : o.op = .buildSlice t n parts.toArray)
    (hp : (parts.map fun (x : Nat × Operand) => (x.1, a.eval x.2)) = (L.zipIdx 0).map fun x => (x.2, bv x.1)) (hn : L.length = n) (hn1 : 0 < n ∧ n ≤ 16777216) (ht : P.underlying t = some (.slice e)) (hi : P.info? e = some i) (hz : i.zero = some (.int .u8 0)) (hs : i.size = 1)
    (h : ∀ g w', Hid (g = w.heap.size) → Hid (w'.heap[g]? = some (.cells (bs L).toArray e (0, 0))) → Below w.heap.size w w' → K (a.put o.dst (.slice (some ⟨g, 0, none⟩) n n)) w') : o.wp P a w K Q := by
  have hrun := run_buildSlice_bytes (P := P) w t e i L n hn hn1 ht hi hz hs
  unfold Oper.wp execOp
  simp only [ho, List.map_toArray, hp, Sem.run_bind, hrun, Result.andThen_ok, Sem.run_pure]
  exact h _ _ (Lib.hid rfl) (Lib.hid (heap_alloc_new w _)) (Below.al _ _)
theorem lst_buildSlice_bytes {P : Program} {ops : Array Oper} {rest : List Oper} {o : Oper} {a : Act} {w : World} {Q : Exit → Act → World → Prop} (t e : TypeId) (n : Nat) (parts : List (Nat × Operand)) (i : TypeInfo) (L : List UInt8) (ho : o.op = .buildSlice t n parts.toArray)
    (hp : (parts.map fun (x : Nat × Operand) => (x.1, a.eval x.2)) = (L.zipIdx 0).map fun x => (x.2, bv x.1)) (hn : L.length = n) (hn1 : 0 < n ∧ n ≤ 16777216) (ht : P.underlying t = some (.slice e)) (hi : P.info? e = some i) (hz : i.zero = some (.int .u8 0)) (hs : i.size = 1) (hw : Region.wanted o (yielded ops a.tmps) = true)
    (h : ∀ g w', Hid (g = w.heap.size) → Hid (w'.heap[g]? = some (.cells (bs L).toArray e (0, 0))) → Below w.heap.size w w' → wpList P ops Q rest (a.put o.dst (.slice (some ⟨g, 0, none⟩) n n)) w') : wpList P ops Q (o :: rest) a w :=
  BigFrame.wpList_want hw fun _ hK => wp_buildSlice_bytes t e n parts i L ho hp hn hn1 ht hi hz hs fun g w' h1 h2 h3 => hK _ _ (h g w' h1 h2 h3)
/-- a constant's bytes are marked -/
theorem wp_mark {P : Program} {o : Oper} {a : Act} {w : World} {K : Act → World → Prop} {Q : Exit → Act → World → Prop} (t e : TypeId) (x : Operand) (g n c : Nat) (C : Array Value) (ho : o.op = .convert t t x) (hx : a.eval x = .slice (some ⟨g, 0, none⟩) n c)
    (hg : w.heap[g]? = some (.cells C e (0, 0))) (ht : P.underlying t = some (.slice e)) (he : P.underlying e = some (.int .u8))
    (h : ∀ w', Hid (w'.heap[g]? = some (.cells C e (C.size, C.size + 1))) → w.grownBy w' (some g) → K (a.put o.dst (.slice (some ⟨g, 0, none⟩) n c)) w') : o.wp P a w K Q := by
  have hsh : w.shape? g = some (e, C.size) := by unfold World.shape?; rw [hg]
  have hrun : (convert t t (.slice (some ⟨g, 0, none⟩) n c)).run P w = .ok (.slice (some ⟨g, 0, none⟩) n c) (w.freeze ⟨g, C.size, none⟩ 1) := by
    simp [convert, run_underlying ht, run_underlying he, markStringish, hsh]
  have h1 : (w.freeze ⟨g, C.size, none⟩ 1).heap[g]? = some (.cells C e (C.size, C.size + 1)) := by
    unfold World.freeze
    rw [if_neg (by decide)]
    simp [Array.getElem?_modify, hg]
  have h2 : w.grownBy (w.freeze ⟨g, C.size, none⟩ 1) (some g) := by
    unfold World.freeze
    rw [if_neg (by decide)]
    refine ⟨rfl, rfl, rfl, by simp, fun k _ hk => ?_⟩
    simp [Array.getElem?_modify, show ¬ g = k from fun e => hk (by rw [e])]
  unfold Oper.wp execOp
  simp only [ho, hx, Sem.run_bind, hrun, Result.andThen_ok, Sem.run_pure]
  exact h _ (Lib.hid h1) h2
theorem results_pub {P : Program} {fn : Func} {tmps : Array Value} {w : World} {k T g k2 T2 g2 x y : Nat} {v v2 u u2 : Value} (hf : fn.results = #[.cell k T, .cell k2 T2, .tmp x, .tmp y]) (h0 : tmps.getD k undef = .pointer (some ⟨g, 0, none⟩)) (h1 : tmps.getD k2 undef = .pointer (some ⟨g2, 0, none⟩))
    (h2 : tmps.getD x undef = u) (h3 : tmps.getD y undef = u2) (hl : (loadVar T ⟨g, 0, none⟩).run P w = .ok v w) (hl2 : (loadVar T2 ⟨g2, 0, none⟩).run P w = .ok v2 w) : (results fn tmps).run P w = .ok (.tuple #[v, v2, u, u2]) w := by
  unfold results
  rw [hf]
  simp only [Array.getD_eq_getD_getElem?] at h0 h1 h2 h3
  simp [h0, h1, h2, h3, asAddr, hl, hl2]

def pubK : List UInt8 := (List.range 32).map fun i => UInt8.ofNat (128 + i)
def pubN : List UInt8 := [7, 0, 0, 0, 64, 65, 66, 67, 68, 69, 70, 71]
def pubH : List UInt8 := [80, 81, 82, 83, 192, 193, 194, 195, 196, 197, 198, 199]
def pubT : List UInt8 := [76,97,100,105,101,115,32,97,110,100,32,71,101,110,116,108,101,109,101,110,32,111,102,32,116,104,101,32,99,108,97,115,115,32,111,102,32,39,57,57,58,32,73,102,32,73,32,99,111,117,108,100,32,111,102,102,101,114,32,121,111,117,32,111,110,108,121,32,111,110,101,32,116,105,112,32,102,111,114,32,116,104,101,32,102,117,116,117,114,101,44,32,115,117,110,115,99,114,101,101,110,32,119,111,117,108,100,32,98,101,32,105,116,46]
theorem pubT_len : pubT.length = 114 := by kernel_rfl
theorem pubK_len : pubK.length = 32 := by simp [pubK]
theorem step_set {L : List UInt8} {n k : Nat} (hL : L.length = n) (hk : k < n) {z : UInt8} (hz : z = L.getD k 0) :
    (bs (L.take k ++ List.replicate (n - k) 0)).toArray.setIfInBounds k (.int .u8 (z.toNat : Int)) = (bs (L.take (k + 1) ++ List.replicate (n - (k + 1)) 0)).toArray := by
  rw [List.setIfInBounds_toArray]
  show ((bs _).set k (bv z)).toArray = _
  rw [bs_set, List.set_append_right _ _ (by rw [List.length_take]; omega), List.length_take, show k - min k L.length = 0 by omega, show n - k = (n - (k + 1)) + 1 by omega, List.replicate_succ, List.set_cons_zero,
    List.take_succ_eq_append_getElem (by omega), hz, getD_eq (by omega), List.append_assoc]
  rfl
theorem Has.setc {w wr : World} {L M : List (Nat × Obj)} {g i : Nat} {cs : Array Value} {t : TypeId} (h : Has w wr (L ++ (g, .cells cs t (0, 0)) :: M)) (v : Value) : Has w (wr.setCell ⟨g, i, none⟩ v) (L ++ (g, .cells (cs.setIfInBounds i v) t (0, 0)) :: M) :=
  h.wr ⟨rfl, rfl, rfl, by simp [World.setCell], fun k _ hk => (Below.heap_setCell _ _ _ _ (show k ≠ g from fun e => hk (by rw [e])))⟩ (heap_setCell_same wr g i cs t v (h.get (by simp)))

theorem heap_gr {w w' : World} {g j : Nat} {o : Obj} (hg : w.grownBy w' (some g)) (h : w.heap[j]? = some o) (hne : j ≠ g) : w'.heap[j]? = some o :=
  (hg.block j (Array.getElem?_eq_some_iff.1 h).1 (fun e => hne (by injection e))).trans h
set_option maxHeartbeats 8000000 in
theorem published_any (w : World) :
    Calls Try.prog 22 #[] w fun e w' => ∃ g1 g2, e = .returned (.tuple #[.agg (bs pubK).toArray, .agg (bs pubN).toArray, .slice (some ⟨g1, 0, none⟩) 12 12, .slice (some ⟨g2, 0, none⟩) 114 114]) ∧
      Sl w' (fun k => k = g1) (some ⟨g1, 0, none⟩) 12 12 pubH ∧ Sl w' (fun k => k = g2) (some ⟨g2, 0, none⟩) 114 114 pubT ∧ w.heap.size ≤ g1 ∧ w.heap.size ≤ g2 ∧ Below w.heap.size w w' := by
  obtain ⟨iK, hiK, zK, _, _⟩ := info_parts Try.infoK
  have HiK := Lib.hid hiK; have HzK := Lib.hid zK
  have infoN : (Try.prog.info? 25).map (fun i => (i.zero, i.size, i.bytes)) = some (some (.agg (bs (List.replicate 12 0)).toArray), 12, 12) := by kernel_rfl
  obtain ⟨iN, hiN, zN, _, _⟩ := info_parts infoN
  have HiN := Lib.hid hiN; have HzN := Lib.hid zN
  obtain ⟨iB, hiB, zB, sB, _⟩ := info_parts Try.infoB
  have HiB := Lib.hid hiB; have HzB := Lib.hid zB; have HsB := Lib.hid sB
  clear hiK zK hiN zN infoN hiB zB sB
  have uK := Lib.hid Try.underlying23
  have uN := Lib.hid Try.underlying25
  have i1 : Hid ((Try.prog.info? 23).map (·.size) = some (bs pubK).length) := by rw [bs_length, pubK_len]; exact Try.sizeKey
  have i2 : Hid ((Try.prog.info? 25).map (·.size) = some (bs pubN).length) := by rw [bs_length]; exact Try.sizeN
  have hbN : (Instr.build 25 #[(0, .int .u8 7), (1, .int .u8 0), (2, .int .u8 0), (3, .int .u8 0), (4, .int .u8 64), (5, .int .u8 65), (6, .int .u8 66), (7, .int .u8 67), (8, .int .u8 68), (9, .int .u8 69), (10, .int .u8 70), (11, .int .u8 71)]).run Try.prog = fun w => .ok (.agg (bs pubN).toArray) w := by kernel_rfl
  have HbN : Hid (∀ w, (Instr.build 25 #[(0, .int .u8 7), (1, .int .u8 0), (2, .int .u8 0), (3, .int .u8 0), (4, .int .u8 64), (5, .int .u8 65), (6, .int .u8 66), (7, .int .u8 67), (8, .int .u8 68), (9, .int .u8 69), (10, .int .u8 70), (11, .int .u8 71)]).run Try.prog w = .ok (.agg (bs pubN).toArray) w) := fun w => congrFun hbN w
  clear hbN
  have X : Hid (Has w w []) := Has.start (Below.refl _ w)
  go_enter Try.func22, Try.ntmps22
  go_wp2_with (first
    | ((with_reducible refine lst_alloc_d 0 rfl 23 rfl iK _ HiK.out HzK.out ?_ ?_)
       (focus rfl)
       intro g0 w0 Hg Hh hb
       have X0 := Lib.hid (X.out.new hb (Nat.le_of_eq Hg.out.1.symm) Hh.out)
       clear Hg Hh hb X)
    | ((with_reducible refine lst_alloc_d 1 rfl 25 rfl iN _ HiN.out HzN.out ?_ ?_)
       (focus rfl)
       intro g1 w1 Hg Hh hb
       have X1 := Lib.hid (X0.out.new hb (Nat.le_of_eq Hg.out.1.symm) Hh.out)
       clear Hg Hh hb X0)
    | ((with_reducible refine lst_alloc_d 4 rfl 23 rfl iK _ HiK.out HzK.out ?_ ?_)
       (focus rfl)
       intro g4 w4 Hg Hh hb
       have X4 : Hid (Has w w4 [(g4, .cells (bs (List.replicate 32 0)).toArray 23 (0, 0)), (g1, .cells (bs (List.replicate 12 0)).toArray 25 (0, 0)), (g0, .cells (bs (List.replicate 32 0)).toArray 23 (0, 0))]) := X1.out.new hb (Nat.le_of_eq Hg.out.1.symm) Hh.out
       clear Hg Hh hb X1))
  go_loopw [5] (fun v wr => ∃ k : Nat, k ≤ 32 ∧ v = .int .i64 (k : Nat) ∧ Hid (Has w wr [(g4, .cells (bs (pubK.take k ++ List.replicate (32 - k) 0)).toArray 23 (0, 0)), (g1, .cells (bs (List.replicate 12 0)).toArray 25 (0, 0)), (g0, .cells (bs (List.replicate 32 0)).toArray 23 (0, 0))])) (fun v _ => 32 - (intOf v).toNat)
  case atStart => exact ⟨0, Nat.zero_le _, rfl, X4.out⟩
  case round =>
    obtain ⟨k, hk, rfl, HX⟩ := hrel
    clear X4
    by_cases hlt : k < 32
    · have hlI : (k : Int) < 32 := by omega
      have hkI : (0 : Int) ≤ (k : Int) := by omega
      obtain ⟨z, hz⟩ : ∃ z, z = pubK.getD k 0 := ⟨_, rfl⟩
      have hst := Lib.hid (step_set pubK_len hlt hz)
      have hcv : (128 : Int) + (k : Int) = (z.toNat : Int) := by
        rw [hz, getD_eq (by rw [pubK_len]; exact hlt)]
        simp [pubK]; omega
      have hblk := HX.out.get (g := g4) (o := .cells (bs (pubK.take k ++ List.replicate (32 - k) 0)).toArray 23 (0, 0)) (by simp)
      have hfz := frozen_of_row wr g4 k _ _ hblk
      have hcell : ∃ u, wr.cell? ⟨g4, k, none⟩ = some u := by
        rw [cell_of_row wr g4 k _ _ _ hblk, List.getElem?_toArray]
        exact ⟨_, List.getElem?_eq_getElem (by rw [bs_length, List.length_append, List.length_take, List.length_replicate, pubK_len]; omega)⟩
      obtain ⟨u, hcell⟩ := hcell
      clear hz hblk
      go_wp2_with fail
      have HX2 := Lib.hid (Has.setc (L := []) (i := k) HX.out (.int .u8 (z.toNat : Int)))
      rw [hst.out, List.nil_append] at HX2
      go_roundw
      case rel => exact ⟨k + 1, by omega, by go_num, HX2.out⟩
      case measure => simp [intOf]; omega
    · have hk32 : k = 32 := by omega
      subst hk32
      have e32 : pubK.take 32 ++ List.replicate (32 - 32) 0 = pubK := by rw [List.take_of_length_le (by rw [pubK_len]; exact Nat.le_refl _)]; simp
      rw [e32] at HX
      clear hlt hk e32
      go_wp2_with (first
        | ((with_reducible refine lst_build 25 _ _ _ rfl (HbN.out _) ?_ ?_ ?_)
           (focus rfl)
           (focus rfl))
        | ((with_reducible refine lst_alloc_d 6 rfl 25 rfl iN _ HiN.out HzN.out ?_ ?_)
           (focus rfl)
           intro g6 w6 Hg Hh hb
           have X6 := Lib.hid (HX.out.new hb (Nat.le_of_eq Hg.out.1.symm) Hh.out)
           have h66 : Hid (w6.heap[g6]? = some (.cells (bs (List.replicate 12 0)).toArray 25 (0, 0))) := Hh
           clear Hg Hh hb)
        | ((with_reducible refine lst_store_abs 25 (.tmp 6) (.tmp 16) rfl g6 25 (bs (List.replicate 12 0)).toArray (bs pubN).toArray rfl rfl h66.out (by simpa using i2.out) (by simp [bs_length, pubN]) (by simp; exact bs_oneCell _) ?_ ?_)
           (focus rfl)
           intro w7 Hh7 hg7
           have X7 : Hid (Has w w7 [(g6, .cells (bs pubN).toArray 25 (0, 0)), (g4, .cells (bs pubK).toArray 23 (0, 0)), (g1, .cells (bs (List.replicate 12 0)).toArray 25 (0, 0)), (g0, .cells (bs (List.replicate 32 0)).toArray 23 (0, 0))]) := Has.wr (L := []) X6.out hg7 Hh7.out
           clear Hh7 hg7 X6 h66))
      clear HX
      have hne := X7.out.nd
      simp only [List.pairwise_cons, List.mem_cons, List.not_mem_nil, or_false, forall_eq_or_imp, forall_eq] at hne
      have n60 : g6 ≠ g0 := hne.1.2.2
      have n61 : g6 ≠ g1 := hne.1.2.1
      have n40 : g4 ≠ g0 := hne.2.1.2
      have n41 : g4 ≠ g1 := hne.2.1.1
      have n10 : g1 ≠ g0 := hne.2.2.1
      have l6 := X7.out.lt (g := g6) (o := .cells (bs pubN).toArray 25 (0, 0)) (by simp)
      have l4 := X7.out.lt (g := g4) (o := .cells (bs pubK).toArray 23 (0, 0)) (by simp)
      have l1 := X7.out.lt (g := g1) (o := .cells (bs (List.replicate 12 0)).toArray 25 (0, 0)) (by simp)
      have l0 := X7.out.lt (g := g0) (o := .cells (bs (List.replicate 32 0)).toArray 23 (0, 0)) (by simp)
      have b1 := X7.out.ge (g := g1) (o := .cells (bs (List.replicate 12 0)).toArray 25 (0, 0)) (by simp)
      have b0 := X7.out.ge (g := g0) (o := .cells (bs (List.replicate 32 0)).toArray 23 (0, 0)) (by simp)
      have r4 : Hid (w7.rangeAt g4 0 (bs pubK)) := range_block (X7.out.get (by simp) : w7.heap[g4]? = some (.cells (bs pubK).toArray 23 (0, 0)))
      have r6 : Hid (w7.rangeAt g6 0 (bs pubN)) := range_block (X7.out.get (by simp) : w7.heap[g6]? = some (.cells (bs pubN).toArray 25 (0, 0)))
      have G0 : Hid (w7.drew.heap[g0]? = some (.cells (bs (List.replicate 32 0)).toArray 23 (0, 0))) := (X7.out.get (by simp) : w7.heap[g0]? = some (.cells (bs (List.replicate 32 0)).toArray 23 (0, 0)))
      have G1 : Hid (w7.drew.heap[g1]? = some (.cells (bs (List.replicate 12 0)).toArray 25 (0, 0))) := (X7.out.get (by simp) : w7.heap[g1]? = some (.cells (bs (List.replicate 12 0)).toArray 25 (0, 0)))
      have zd : w7.drew.heap.size = w7.heap.size := rfl
      have zw : w.heap.size ≤ w7.heap.size := X7.out.bel.size
      have uS := Try.underlying26
      have uB := Try.underlying5
      clear hne
      refine wp_calm ?_
      refine wp_region_o3 (fun _ w' => Fr (fun j => j = g0 ∨ j = g1) (w7).drew w') [0, 1] (.pre (.take 0 (.take 1 .done)) (.three 2 [0, 1] (.os (.two 3 [0, 1] (.two 4 [0, 1] (.run 5 [1] (.run 6 [] (.move 7 (.move 8 .done)))) 5 [1] (.two 4 [0, 1] (.run 6 [] (.move 7 (.move 8 .done))) 6 [] (.move 7 (.run 4 [0, 1] (.move 8 .done))))) 5 [1] (.two 3 [0, 1] (.two 4 [0, 1] (.run 6 [] (.move 7 (.move 8 .done))) 6 [] (.move 7 (.run 4 [0, 1] (.move 8 .done)))) 6 [] (.move 7 (.run 3 [0, 1] (.run 4 [0, 1] (.move 8 .done))))))) 3 [0, 1] (.three 2 [0, 1] (.os (.two 4 [0, 1] (.run 5 [1] (.run 6 [] (.move 7 (.move 8 .done)))) 5 [1] (.two 4 [0, 1] (.run 6 [] (.move 7 (.move 8 .done))) 6 [] (.move 7 (.run 4 [0, 1] (.move 8 .done)))))) 4 [0, 1] (.os (.two 2 [0, 1] (.run 5 [1] (.run 6 [] (.move 7 (.move 8 .done)))) 5 [1] (.two 2 [0, 1] (.run 6 [] (.move 7 (.move 8 .done))) 6 [] (.run 2 [0, 1] (.move 7 (.move 8 .done)))))) 5 [1] (.three 2 [0, 1] (.os (.two 4 [0, 1] (.run 6 [] (.move 7 (.move 8 .done))) 6 [] (.move 7 (.run 4 [0, 1] (.move 8 .done))))) 4 [0, 1] (.os (.two 2 [0, 1] (.run 6 [] (.move 7 (.move 8 .done))) 6 [] (.run 2 [0, 1] (.move 7 (.move 8 .done))))) 6 [] (.os (.two 2 [0, 1] (.move 7 (.run 4 [0, 1] (.move 8 .done))) 4 [0, 1] (.run 2 [0, 1] (.move 7 (.move 8 .done))))))) 5 [1] (.three 2 [0, 1] (.os (.two 3 [0, 1] (.two 4 [0, 1] (.run 6 [] (.move 7 (.move 8 .done))) 6 [] (.move 7 (.run 4 [0, 1] (.move 8 .done)))) 6 [] (.move 7 (.run 3 [0, 1] (.run 4 [0, 1] (.move 8 .done)))))) 3 [0, 1] (.three 2 [0, 1] (.os (.two 4 [0, 1] (.run 6 [] (.move 7 (.move 8 .done))) 6 [] (.move 7 (.run 4 [0, 1] (.move 8 .done))))) 4 [0, 1] (.os (.two 2 [0, 1] (.run 6 [] (.move 7 (.move 8 .done))) 6 [] (.run 2 [0, 1] (.move 7 (.move 8 .done))))) 6 [] (.os (.two 2 [0, 1] (.move 7 (.run 4 [0, 1] (.move 8 .done))) 4 [0, 1] (.run 2 [0, 1] (.move 7 (.move 8 .done)))))) 6 [] (.os (.two 2 [0, 1] (.move 7 (.run 3 [0, 1] (.run 4 [0, 1] (.move 8 .done)))) 3 [0, 1] (.two 2 [0, 1] (.move 7 (.run 4 [0, 1] (.move 8 .done))) 4 [0, 1] (.run 2 [0, 1] (.move 7 (.move 8 .done))))))))) (by kernel_rfl) (by kernel_rfl) (fun _ _ _ _ _ h => nomatch h.1) ?_
      have hS0 : Fr (fun j => j = g0 ∨ j = g1) (w7).drew (w7).drew := Fr.refl _ _
      refine o3_pre ?_
      generalize hPP : (List.append _ _ : List (Nat × Operand)) = PP
      have hpp : ∀ a : Act, (PP.map fun (x : Nat × Operand) => (x.1, a.eval x.2)) = (pubT.zipIdx 0).map fun x => (x.2, bv x.1) := by (intro a; rw [← hPP]; kernel_rfl)
      clear hPP
      refine os_load_mid 23 (.tmp 4) (g4) (0) (bs pubK) _ hS0 rfl rfl rfl rfl rfl (uK.out) rfl (i1.out) (fun w' h => rangeAt_fr (range_dr (r4.out)) h (by omega) l4) ⟨_, rfl, ?_⟩
      refine os_load_mid 25 (.tmp 6) (g6) (0) (bs pubN) _ hS0 rfl rfl rfl rfl rfl (uN.out) rfl (i2.out) (fun w' h => rangeAt_fr (range_dr (r6.out)) h (by omega) l6) ⟨_, rfl, ?_⟩
      refine o3_done ?_
      simp only [Act.put, List.setIfInBounds_toArray, List.set_cons_succ, List.set_cons_zero]
      refine o3_three rfl rfl rfl rfl rfl rfl (fun K hK => ?_) (fun K hK => ?_) (fun K hK => ?_)
      · refine wp_buildSlice_bytes 26 5 12 _ iB pubH rfl (by kernel_rfl) rfl (by decide) uS HiB.out HzB.out HsB.out ?_
        intro gh wh Eh Hh hbh
        have B19 : Hid (wh.heap[gh]? = some (.cells (bs pubH).toArray 5 (0, 0))) := Hh
        have e19 : w7.heap.size ≤ gh := by have := Eh.out; have := hS0.size; omega
        try have nht : gh ≠ gt := fun e => by have := (Array.getElem?_eq_some_iff.1 B20.out).1; have := Eh.out; have := hbh.size; omega
        try replace G0 := Lib.hid (heap_bel G0.out hbh)
        try replace G1 := Lib.hid (heap_bel G1.out hbh)
        try replace P0 := Lib.hid (heap_bel P0.out hbh)
        try replace P1 := Lib.hid (heap_bel P1.out hbh)
        try replace F20 := Lib.hid (heap_bel F20.out hbh)
        try replace B20 := Lib.hid (heap_bel B20.out hbh)
        clear Eh Hh
        refine hK _ _ ⟨fun _ _ h => Fr.tr h ((Fr.of_below (M := (fun j => j = g0 ∨ j = g1)) hbh)), ?_⟩
        clear hK
        replace hS0 := Fr.tr hS0 ((Fr.of_below (M := (fun j => j = g0 ∨ j = g1)) hbh))
        simp only [Act.put, List.setIfInBounds_toArray, List.set_cons_succ, List.set_cons_zero]
        refine o3_os ?_
        refine os_two rfl rfl rfl rfl (fun K hK => ?_) (fun K hK => ?_)
        · refine wp_buildSlice_bytes 26 5 114 PP iB pubT rfl (hpp _) pubT_len ⟨by omega, by omega⟩ uS HiB.out HzB.out HsB.out ?_
          intro gt wt Et Ht hbt
          have B20 : Hid (wt.heap[gt]? = some (.cells (bs pubT).toArray 5 (0, 0))) := Ht
          have e20 : w7.heap.size ≤ gt := by have := Et.out; have := hS0.size; omega
          try have nht : gh ≠ gt := fun e => by have := (Array.getElem?_eq_some_iff.1 B19.out).1; have := Et.out; have := hbt.size; omega
          try replace G0 := Lib.hid (heap_bel G0.out hbt)
          try replace G1 := Lib.hid (heap_bel G1.out hbt)
          try replace P0 := Lib.hid (heap_bel P0.out hbt)
          try replace P1 := Lib.hid (heap_bel P1.out hbt)
          try replace B19 := Lib.hid (heap_bel B19.out hbt)
          clear Et Ht
          refine hK _ _ ⟨fun _ _ h => Fr.tr h ((Fr.of_below (M := (fun j => j = g0 ∨ j = g1)) hbt)), ?_⟩
          clear hK
          replace hS0 := Fr.tr hS0 ((Fr.of_below (M := (fun j => j = g0 ∨ j = g1)) hbt))
          simp only [Act.put, List.setIfInBounds_toArray, List.set_cons_succ, List.set_cons_zero]
          refine os_two rfl rfl rfl rfl (fun K hK => ?_) (fun K hK => ?_)
          · refine wp_mark 26 5 (.tmp 20) gt 114 114 (bs pubT).toArray rfl rfl B20.out uS uB ?_
            intro wm Hm hgm
            have F20 : Hid (wm.heap[gt]? = some (.cells (bs pubT).toArray 5 ((bs pubT).toArray.size, (bs pubT).toArray.size + 1))) := Hm
            try replace G0 := Lib.hid (heap_gr hgm G0.out (by omega))
            try replace G1 := Lib.hid (heap_gr hgm G1.out (by omega))
            try replace P0 := Lib.hid (heap_gr hgm P0.out (by omega))
            try replace P1 := Lib.hid (heap_gr hgm P1.out (by omega))
            try replace B19 := Lib.hid (heap_gr hgm B19.out (by omega))
            clear Hm B20
            refine hK _ _ ⟨fun _ _ _ => hS0.trans (Fr.of_grown hgm) (fun i hi e => by injection e with e; omega), ?_⟩
            clear hK
            replace hS0 := hS0.trans (Fr.of_grown hgm) (fun i hi e => by injection e with e; omega)
            simp only [Act.put, List.setIfInBounds_toArray, List.set_cons_succ, List.set_cons_zero]
            refine os_run rfl rfl (fun K hK => ?_)
            refine wp_store_abs 23 (.tmp 0) (.tmp 17) rfl g0 23 _ (bs pubK).toArray rfl rfl G0.out (by simpa using i1.out) (by simp [bs_length, pubK_len]) (by simp; exact bs_oneCell _) ?_
            intro wk Hk hgk
            have P0 : Hid (wk.heap[g0]? = some (.cells (bs pubK).toArray 23 (0, 0))) := Hk
            try replace G1 := Lib.hid (heap_gr hgk G1.out (by omega))
            try replace P1 := Lib.hid (heap_gr hgk P1.out (by omega))
            try replace B19 := Lib.hid (heap_gr hgk B19.out (by omega))
            try replace B20 := Lib.hid (heap_gr hgk B20.out (by omega))
            try replace F20 := Lib.hid (heap_gr hgk F20.out (by omega))
            clear Hk G0
            refine hK _ _ ⟨fun _ _ h => Fr.tr h (((Fr.of_grown hgk).mono (fun j _ e => .inl (by injection e)))), ?_⟩
            clear hK
            replace hS0 := Fr.tr hS0 (((Fr.of_grown hgk).mono (fun j _ e => .inl (by injection e))))
            simp only [Act.put]
            refine os_run rfl rfl (fun K hK => ?_)
            refine wp_store_abs 25 (.tmp 1) (.tmp 18) rfl g1 25 _ (bs pubN).toArray rfl rfl G1.out (by simpa using i2.out) (by simp [bs_length, pubN]) (by simp; exact bs_oneCell _) ?_
            intro wn Hn hgn
            have P1 : Hid (wn.heap[g1]? = some (.cells (bs pubN).toArray 25 (0, 0))) := Hn
            try replace G0 := Lib.hid (heap_gr hgn G0.out (by omega))
            try replace P0 := Lib.hid (heap_gr hgn P0.out (by omega))
            try replace B19 := Lib.hid (heap_gr hgn B19.out (by omega))
            try replace B20 := Lib.hid (heap_gr hgn B20.out (by omega))
            try replace F20 := Lib.hid (heap_gr hgn F20.out (by omega))
            clear Hn G1
            refine hK _ _ ⟨fun _ hk => absurd hk List.not_mem_nil, ?_⟩
            clear hK
            replace hS0 := Fr.tr hS0 (((Fr.of_grown hgn).mono (fun j _ e => .inr (by injection e))))
            simp only [Act.put]
            refine os_move rfl rfl rfl (Nat.le_of_ble_eq_true rfl) ?_
            apply Exists.intro
            refine ⟨fun w' K hK => ?_, ?_⟩
            (focus
              go_simp
              exact hK)
            refine os_move rfl rfl rfl (Nat.le_of_ble_eq_true rfl) ?_
            apply Exists.intro
            refine ⟨fun w' K hK => ?_, ?_⟩
            (focus
              go_simp
              exact hK)
            refine os_done ⟨rfl, ?_⟩
            go_wp2_with fail
            refine bodyPost_ret (v := .tuple #[.agg (bs pubK).toArray, .agg (bs pubN).toArray, .slice (some ⟨gh, 0, none⟩) 12 12, .slice (some ⟨gt, 0, none⟩) 114 114])
              (results_pub Try.results22 rfl rfl rfl rfl (run_loadVar_mid _ g0 0 23 (bs pubK) _ (range_block P0.out) uK.out rfl i1.out) (run_loadVar_mid _ g1 0 25 (bs pubN) _ (range_block P1.out) uN.out rfl i2.out)) rfl
              ⟨gh, gt, rfl, Sl.of_block B19.out rfl 12 rfl, Sl.of_block F20.out rfl 114 pubT_len, by omega, by omega, ?_⟩
            exact ((Fr.of_below (below_drewN X7.out.bel 1)).trans hS0 (fun i _ h => h)).to_below (fun i hi e => by rcases e with e | e <;> omega)
          · refine wp_store_abs 23 (.tmp 0) (.tmp 17) rfl g0 23 _ (bs pubK).toArray rfl rfl G0.out (by simpa using i1.out) (by simp [bs_length, pubK_len]) (by simp; exact bs_oneCell _) ?_
            intro wk Hk hgk
            have P0 : Hid (wk.heap[g0]? = some (.cells (bs pubK).toArray 23 (0, 0))) := Hk
            try replace G1 := Lib.hid (heap_gr hgk G1.out (by omega))
            try replace P1 := Lib.hid (heap_gr hgk P1.out (by omega))
            try replace B19 := Lib.hid (heap_gr hgk B19.out (by omega))
            try replace B20 := Lib.hid (heap_gr hgk B20.out (by omega))
            try replace F20 := Lib.hid (heap_gr hgk F20.out (by omega))
            clear Hk G0
            refine hK _ _ ⟨fun _ _ h => Fr.tr h (((Fr.of_grown hgk).mono (fun j _ e => .inl (by injection e)))), ?_⟩
            clear hK
            replace hS0 := Fr.tr hS0 (((Fr.of_grown hgk).mono (fun j _ e => .inl (by injection e))))
            simp only [Act.put]
            refine os_two rfl rfl rfl rfl (fun K hK => ?_) (fun K hK => ?_)
            · refine wp_mark 26 5 (.tmp 20) gt 114 114 (bs pubT).toArray rfl rfl B20.out uS uB ?_
              intro wm Hm hgm
              have F20 : Hid (wm.heap[gt]? = some (.cells (bs pubT).toArray 5 ((bs pubT).toArray.size, (bs pubT).toArray.size + 1))) := Hm
              try replace G0 := Lib.hid (heap_gr hgm G0.out (by omega))
              try replace G1 := Lib.hid (heap_gr hgm G1.out (by omega))
              try replace P0 := Lib.hid (heap_gr hgm P0.out (by omega))
              try replace P1 := Lib.hid (heap_gr hgm P1.out (by omega))
              try replace B19 := Lib.hid (heap_gr hgm B19.out (by omega))
              clear Hm B20
              refine hK _ _ ⟨fun _ _ _ => hS0.trans (Fr.of_grown hgm) (fun i hi e => by injection e with e; omega), ?_⟩
              clear hK
              replace hS0 := hS0.trans (Fr.of_grown hgm) (fun i hi e => by injection e with e; omega)
              simp only [Act.put, List.setIfInBounds_toArray, List.set_cons_succ, List.set_cons_zero]
              refine os_run rfl rfl (fun K hK => ?_)
              refine wp_store_abs 25 (.tmp 1) (.tmp 18) rfl g1 25 _ (bs pubN).toArray rfl rfl G1.out (by simpa using i2.out) (by simp [bs_length, pubN]) (by simp; exact bs_oneCell _) ?_
              intro wn Hn hgn
              have P1 : Hid (wn.heap[g1]? = some (.cells (bs pubN).toArray 25 (0, 0))) := Hn
              try replace G0 := Lib.hid (heap_gr hgn G0.out (by omega))
              try replace P0 := Lib.hid (heap_gr hgn P0.out (by omega))
              try replace B19 := Lib.hid (heap_gr hgn B19.out (by omega))
              try replace B20 := Lib.hid (heap_gr hgn B20.out (by omega))
              try replace F20 := Lib.hid (heap_gr hgn F20.out (by omega))
              clear Hn G1
              refine hK _ _ ⟨fun _ hk => absurd hk List.not_mem_nil, ?_⟩
              clear hK
              replace hS0 := Fr.tr hS0 (((Fr.of_grown hgn).mono (fun j _ e => .inr (by injection e))))
              simp only [Act.put]
              refine os_move rfl rfl rfl (Nat.le_of_ble_eq_true rfl) ?_
              apply Exists.intro
              refine ⟨fun w' K hK => ?_, ?_⟩
              (focus
                go_simp
                exact hK)
              refine os_move rfl rfl rfl (Nat.le_of_ble_eq_true rfl) ?_
              apply Exists.intro
              refine ⟨fun w' K hK => ?_, ?_⟩
              (focus
                go_simp
                exact hK)
              refine os_done ⟨rfl, ?_⟩
              go_wp2_with fail
              refine bodyPost_ret (v := .tuple #[.agg (bs pubK).toArray, .agg (bs pubN).toArray, .slice (some ⟨gh, 0, none⟩) 12 12, .slice (some ⟨gt, 0, none⟩) 114 114])
                (results_pub Try.results22 rfl rfl rfl rfl (run_loadVar_mid _ g0 0 23 (bs pubK) _ (range_block P0.out) uK.out rfl i1.out) (run_loadVar_mid _ g1 0 25 (bs pubN) _ (range_block P1.out) uN.out rfl i2.out)) rfl
                ⟨gh, gt, rfl, Sl.of_block B19.out rfl 12 rfl, Sl.of_block F20.out rfl 114 pubT_len, by omega, by omega, ?_⟩
              exact ((Fr.of_below (below_drewN X7.out.bel 1)).trans hS0 (fun i _ h => h)).to_below (fun i hi e => by rcases e with e | e <;> omega)
            · refine wp_store_abs 25 (.tmp 1) (.tmp 18) rfl g1 25 _ (bs pubN).toArray rfl rfl G1.out (by simpa using i2.out) (by simp [bs_length, pubN]) (by simp; exact bs_oneCell _) ?_
              intro wn Hn hgn
              have P1 : Hid (wn.heap[g1]? = some (.cells (bs pubN).toArray 25 (0, 0))) := Hn
              try replace G0 := Lib.hid (heap_gr hgn G0.out (by omega))
              try replace P0 := Lib.hid (heap_gr hgn P0.out (by omega))
              try replace B19 := Lib.hid (heap_gr hgn B19.out (by omega))
              try replace B20 := Lib.hid (heap_gr hgn B20.out (by omega))
              try replace F20 := Lib.hid (heap_gr hgn F20.out (by omega))
              clear Hn G1
              refine hK _ _ ⟨fun _ hk => absurd hk List.not_mem_nil, ?_⟩
              clear hK
              replace hS0 := Fr.tr hS0 (((Fr.of_grown hgn).mono (fun j _ e => .inr (by injection e))))
              simp only [Act.put]
              refine os_move rfl rfl rfl (Nat.le_of_ble_eq_true rfl) ?_
              apply Exists.intro
              refine ⟨fun w' K hK => ?_, ?_⟩
              (focus
                go_simp
                exact hK)
              refine os_run rfl rfl (fun K hK => ?_)
              refine wp_mark 26 5 (.tmp 20) gt 114 114 (bs pubT).toArray rfl rfl B20.out uS uB ?_
              intro wm Hm hgm
              have F20 : Hid (wm.heap[gt]? = some (.cells (bs pubT).toArray 5 ((bs pubT).toArray.size, (bs pubT).toArray.size + 1))) := Hm
              try replace G0 := Lib.hid (heap_gr hgm G0.out (by omega))
              try replace G1 := Lib.hid (heap_gr hgm G1.out (by omega))
              try replace P0 := Lib.hid (heap_gr hgm P0.out (by omega))
              try replace P1 := Lib.hid (heap_gr hgm P1.out (by omega))
              try replace B19 := Lib.hid (heap_gr hgm B19.out (by omega))
              clear Hm B20
              refine hK _ _ ⟨fun _ _ _ => hS0.trans (Fr.of_grown hgm) (fun i hi e => by injection e with e; omega), ?_⟩
              clear hK
              replace hS0 := hS0.trans (Fr.of_grown hgm) (fun i hi e => by injection e with e; omega)
              simp only [Act.put, List.setIfInBounds_toArray, List.set_cons_succ, List.set_cons_zero]
              refine os_move rfl rfl rfl (Nat.le_of_ble_eq_true rfl) ?_
              apply Exists.intro
              refine ⟨fun w' K hK => ?_, ?_⟩
              (focus
                go_simp
                exact hK)
              refine os_done ⟨rfl, ?_⟩
              go_wp2_with fail
              refine bodyPost_ret (v := .tuple #[.agg (bs pubK).toArray, .agg (bs pubN).toArray, .slice (some ⟨gh, 0, none⟩) 12 12, .slice (some ⟨gt, 0, none⟩) 114 114])
                (results_pub Try.results22 rfl rfl rfl rfl (run_loadVar_mid _ g0 0 23 (bs pubK) _ (range_block P0.out) uK.out rfl i1.out) (run_loadVar_mid _ g1 0 25 (bs pubN) _ (range_block P1.out) uN.out rfl i2.out)) rfl
                ⟨gh, gt, rfl, Sl.of_block B19.out rfl 12 rfl, Sl.of_block F20.out rfl 114 pubT_len, by omega, by omega, ?_⟩
              exact ((Fr.of_below (below_drewN X7.out.bel 1)).trans hS0 (fun i _ h => h)).to_below (fun i hi e => by rcases e with e | e <;> omega)
        · refine wp_store_abs 23 (.tmp 0) (.tmp 17) rfl g0 23 _ (bs pubK).toArray rfl rfl G0.out (by simpa using i1.out) (by simp [bs_length, pubK_len]) (by simp; exact bs_oneCell _) ?_
          intro wk Hk hgk
          have P0 : Hid (wk.heap[g0]? = some (.cells (bs pubK).toArray 23 (0, 0))) := Hk
          try replace G1 := Lib.hid (heap_gr hgk G1.out (by omega))
          try replace P1 := Lib.hid (heap_gr hgk P1.out (by omega))
          try replace B19 := Lib.hid (heap_gr hgk B19.out (by omega))
          try replace B20 := Lib.hid (heap_gr hgk B20.out (by omega))
          try replace F20 := Lib.hid (heap_gr hgk F20.out (by omega))
          clear Hk G0
          refine hK _ _ ⟨fun _ _ h => Fr.tr h (((Fr.of_grown hgk).mono (fun j _ e => .inl (by injection e)))), ?_⟩
          clear hK
          replace hS0 := Fr.tr hS0 (((Fr.of_grown hgk).mono (fun j _ e => .inl (by injection e))))
          simp only [Act.put]
          refine os_two rfl rfl rfl rfl (fun K hK => ?_) (fun K hK => ?_)
          · refine wp_buildSlice_bytes 26 5 114 PP iB pubT rfl (hpp _) pubT_len ⟨by omega, by omega⟩ uS HiB.out HzB.out HsB.out ?_
            intro gt wt Et Ht hbt
            have B20 : Hid (wt.heap[gt]? = some (.cells (bs pubT).toArray 5 (0, 0))) := Ht
            have e20 : w7.heap.size ≤ gt := by have := Et.out; have := hS0.size; omega
            try have nht : gh ≠ gt := fun e => by have := (Array.getElem?_eq_some_iff.1 B19.out).1; have := Et.out; have := hbt.size; omega
            try replace G0 := Lib.hid (heap_bel G0.out hbt)
            try replace G1 := Lib.hid (heap_bel G1.out hbt)
            try replace P0 := Lib.hid (heap_bel P0.out hbt)
            try replace P1 := Lib.hid (heap_bel P1.out hbt)
            try replace B19 := Lib.hid (heap_bel B19.out hbt)
            clear Et Ht
            refine hK _ _ ⟨fun _ _ h => Fr.tr h ((Fr.of_below (M := (fun j => j = g0 ∨ j = g1)) hbt)), ?_⟩
            clear hK
            replace hS0 := Fr.tr hS0 ((Fr.of_below (M := (fun j => j = g0 ∨ j = g1)) hbt))
            simp only [Act.put, List.setIfInBounds_toArray, List.set_cons_succ, List.set_cons_zero]
            refine os_two rfl rfl rfl rfl (fun K hK => ?_) (fun K hK => ?_)
            · refine wp_mark 26 5 (.tmp 20) gt 114 114 (bs pubT).toArray rfl rfl B20.out uS uB ?_
              intro wm Hm hgm
              have F20 : Hid (wm.heap[gt]? = some (.cells (bs pubT).toArray 5 ((bs pubT).toArray.size, (bs pubT).toArray.size + 1))) := Hm
              try replace G0 := Lib.hid (heap_gr hgm G0.out (by omega))
              try replace G1 := Lib.hid (heap_gr hgm G1.out (by omega))
              try replace P0 := Lib.hid (heap_gr hgm P0.out (by omega))
              try replace P1 := Lib.hid (heap_gr hgm P1.out (by omega))
              try replace B19 := Lib.hid (heap_gr hgm B19.out (by omega))
              clear Hm B20
              refine hK _ _ ⟨fun _ _ _ => hS0.trans (Fr.of_grown hgm) (fun i hi e => by injection e with e; omega), ?_⟩
              clear hK
              replace hS0 := hS0.trans (Fr.of_grown hgm) (fun i hi e => by injection e with e; omega)
              simp only [Act.put, List.setIfInBounds_toArray, List.set_cons_succ, List.set_cons_zero]
              refine os_run rfl rfl (fun K hK => ?_)
              refine wp_store_abs 25 (.tmp 1) (.tmp 18) rfl g1 25 _ (bs pubN).toArray rfl rfl G1.out (by simpa using i2.out) (by simp [bs_length, pubN]) (by simp; exact bs_oneCell _) ?_
              intro wn Hn hgn
              have P1 : Hid (wn.heap[g1]? = some (.cells (bs pubN).toArray 25 (0, 0))) := Hn
              try replace G0 := Lib.hid (heap_gr hgn G0.out (by omega))
              try replace P0 := Lib.hid (heap_gr hgn P0.out (by omega))
              try replace B19 := Lib.hid (heap_gr hgn B19.out (by omega))
              try replace B20 := Lib.hid (heap_gr hgn B20.out (by omega))
              try replace F20 := Lib.hid (heap_gr hgn F20.out (by omega))
              clear Hn G1
              refine hK _ _ ⟨fun _ hk => absurd hk List.not_mem_nil, ?_⟩
              clear hK
              replace hS0 := Fr.tr hS0 (((Fr.of_grown hgn).mono (fun j _ e => .inr (by injection e))))
              simp only [Act.put]
              refine os_move rfl rfl rfl (Nat.le_of_ble_eq_true rfl) ?_
              apply Exists.intro
              refine ⟨fun w' K hK => ?_, ?_⟩
              (focus
                go_simp
                exact hK)
              refine os_move rfl rfl rfl (Nat.le_of_ble_eq_true rfl) ?_
              apply Exists.intro
              refine ⟨fun w' K hK => ?_, ?_⟩
              (focus
                go_simp
                exact hK)
              refine os_done ⟨rfl, ?_⟩
              go_wp2_with fail
              refine bodyPost_ret (v := .tuple #[.agg (bs pubK).toArray, .agg (bs pubN).toArray, .slice (some ⟨gh, 0, none⟩) 12 12, .slice (some ⟨gt, 0, none⟩) 114 114])
                (results_pub Try.results22 rfl rfl rfl rfl (run_loadVar_mid _ g0 0 23 (bs pubK) _ (range_block P0.out) uK.out rfl i1.out) (run_loadVar_mid _ g1 0 25 (bs pubN) _ (range_block P1.out) uN.out rfl i2.out)) rfl
                ⟨gh, gt, rfl, Sl.of_block B19.out rfl 12 rfl, Sl.of_block F20.out rfl 114 pubT_len, by omega, by omega, ?_⟩
              exact ((Fr.of_below (below_drewN X7.out.bel 1)).trans hS0 (fun i _ h => h)).to_below (fun i hi e => by rcases e with e | e <;> omega)
            · refine wp_store_abs 25 (.tmp 1) (.tmp 18) rfl g1 25 _ (bs pubN).toArray rfl rfl G1.out (by simpa using i2.out) (by simp [bs_length, pubN]) (by simp; exact bs_oneCell _) ?_
              intro wn Hn hgn
              have P1 : Hid (wn.heap[g1]? = some (.cells (bs pubN).toArray 25 (0, 0))) := Hn
              try replace G0 := Lib.hid (heap_gr hgn G0.out (by omega))
              try replace P0 := Lib.hid (heap_gr hgn P0.out (by omega))
              try replace B19 := Lib.hid (heap_gr hgn B19.out (by omega))
              try replace B20 := Lib.hid (heap_gr hgn B20.out (by omega))
              try replace F20 := Lib.hid (heap_gr hgn F20.out (by omega))
              clear Hn G1
              refine hK _ _ ⟨fun _ hk => absurd hk List.not_mem_nil, ?_⟩
              clear hK
              replace hS0 := Fr.tr hS0 (((Fr.of_grown hgn).mono (fun j _ e => .inr (by injection e))))
              simp only [Act.put]
              refine os_move rfl rfl rfl (Nat.le_of_ble_eq_true rfl) ?_
              apply Exists.intro
              refine ⟨fun w' K hK => ?_, ?_⟩
              (focus
                go_simp
                exact hK)
              refine os_run rfl rfl (fun K hK => ?_)
              refine wp_mark 26 5 (.tmp 20) gt 114 114 (bs pubT).toArray rfl rfl B20.out uS uB ?_
              intro wm Hm hgm
              have F20 : Hid (wm.heap[gt]? = some (.cells (bs pubT).toArray 5 ((bs pubT).toArray.size, (bs pubT).toArray.size + 1))) := Hm
              try replace G0 := Lib.hid (heap_gr hgm G0.out (by omega))
              try replace G1 := Lib.hid (heap_gr hgm G1.out (by omega))
              try replace P0 := Lib.hid (heap_gr hgm P0.out (by omega))
              try replace P1 := Lib.hid (heap_gr hgm P1.out (by omega))
              try replace B19 := Lib.hid (heap_gr hgm B19.out (by omega))
              clear Hm B20
              refine hK _ _ ⟨fun _ _ _ => hS0.trans (Fr.of_grown hgm) (fun i hi e => by injection e with e; omega), ?_⟩
              clear hK
              replace hS0 := hS0.trans (Fr.of_grown hgm) (fun i hi e => by injection e with e; omega)
              simp only [Act.put, List.setIfInBounds_toArray, List.set_cons_succ, List.set_cons_zero]
              refine os_move rfl rfl rfl (Nat.le_of_ble_eq_true rfl) ?_
              apply Exists.intro
              refine ⟨fun w' K hK => ?_, ?_⟩
              (focus
                go_simp
                exact hK)
              refine os_done ⟨rfl, ?_⟩
              go_wp2_with fail
              refine bodyPost_ret (v := .tuple #[.agg (bs pubK).toArray, .agg (bs pubN).toArray, .slice (some ⟨gh, 0, none⟩) 12 12, .slice (some ⟨gt, 0, none⟩) 114 114])
                (results_pub Try.results22 rfl rfl rfl rfl (run_loadVar_mid _ g0 0 23 (bs pubK) _ (range_block P0.out) uK.out rfl i1.out) (run_loadVar_mid _ g1 0 25 (bs pubN) _ (range_block P1.out) uN.out rfl i2.out)) rfl
                ⟨gh, gt, rfl, Sl.of_block B19.out rfl 12 rfl, Sl.of_block F20.out rfl 114 pubT_len, by omega, by omega, ?_⟩
              exact ((Fr.of_below (below_drewN X7.out.bel 1)).trans hS0 (fun i _ h => h)).to_below (fun i hi e => by rcases e with e | e <;> omega)
          · refine wp_store_abs 25 (.tmp 1) (.tmp 18) rfl g1 25 _ (bs pubN).toArray rfl rfl G1.out (by simpa using i2.out) (by simp [bs_length, pubN]) (by simp; exact bs_oneCell _) ?_
            intro wn Hn hgn
            have P1 : Hid (wn.heap[g1]? = some (.cells (bs pubN).toArray 25 (0, 0))) := Hn
            try replace G0 := Lib.hid (heap_gr hgn G0.out (by omega))
            try replace P0 := Lib.hid (heap_gr hgn P0.out (by omega))
            try replace B19 := Lib.hid (heap_gr hgn B19.out (by omega))
            try replace B20 := Lib.hid (heap_gr hgn B20.out (by omega))
            try replace F20 := Lib.hid (heap_gr hgn F20.out (by omega))
            clear Hn G1
            refine hK _ _ ⟨fun _ hk => absurd hk List.not_mem_nil, ?_⟩
            clear hK
            replace hS0 := Fr.tr hS0 (((Fr.of_grown hgn).mono (fun j _ e => .inr (by injection e))))
            simp only [Act.put]
            refine os_move rfl rfl rfl (Nat.le_of_ble_eq_true rfl) ?_
            apply Exists.intro
            refine ⟨fun w' K hK => ?_, ?_⟩
            (focus
              go_simp
              exact hK)
            refine os_run rfl rfl (fun K hK => ?_)
            refine wp_buildSlice_bytes 26 5 114 PP iB pubT rfl (hpp _) pubT_len ⟨by omega, by omega⟩ uS HiB.out HzB.out HsB.out ?_
            intro gt wt Et Ht hbt
            have B20 : Hid (wt.heap[gt]? = some (.cells (bs pubT).toArray 5 (0, 0))) := Ht
            have e20 : w7.heap.size ≤ gt := by have := Et.out; have := hS0.size; omega
            try have nht : gh ≠ gt := fun e => by have := (Array.getElem?_eq_some_iff.1 B19.out).1; have := Et.out; have := hbt.size; omega
            try replace G0 := Lib.hid (heap_bel G0.out hbt)
            try replace G1 := Lib.hid (heap_bel G1.out hbt)
            try replace P0 := Lib.hid (heap_bel P0.out hbt)
            try replace P1 := Lib.hid (heap_bel P1.out hbt)
            try replace B19 := Lib.hid (heap_bel B19.out hbt)
            clear Et Ht
            refine hK _ _ ⟨fun _ _ h => Fr.tr h ((Fr.of_below (M := (fun j => j = g0 ∨ j = g1)) hbt)), ?_⟩
            clear hK
            replace hS0 := Fr.tr hS0 ((Fr.of_below (M := (fun j => j = g0 ∨ j = g1)) hbt))
            simp only [Act.put, List.setIfInBounds_toArray, List.set_cons_succ, List.set_cons_zero]
            refine os_run rfl rfl (fun K hK => ?_)
            refine wp_mark 26 5 (.tmp 20) gt 114 114 (bs pubT).toArray rfl rfl B20.out uS uB ?_
            intro wm Hm hgm
            have F20 : Hid (wm.heap[gt]? = some (.cells (bs pubT).toArray 5 ((bs pubT).toArray.size, (bs pubT).toArray.size + 1))) := Hm
            try replace G0 := Lib.hid (heap_gr hgm G0.out (by omega))
            try replace G1 := Lib.hid (heap_gr hgm G1.out (by omega))
            try replace P0 := Lib.hid (heap_gr hgm P0.out (by omega))
            try replace P1 := Lib.hid (heap_gr hgm P1.out (by omega))
            try replace B19 := Lib.hid (heap_gr hgm B19.out (by omega))
            clear Hm B20
            refine hK _ _ ⟨fun _ _ _ => hS0.trans (Fr.of_grown hgm) (fun i hi e => by injection e with e; omega), ?_⟩
            clear hK
            replace hS0 := hS0.trans (Fr.of_grown hgm) (fun i hi e => by injection e with e; omega)
            simp only [Act.put, List.setIfInBounds_toArray, List.set_cons_succ, List.set_cons_zero]
            refine os_move rfl rfl rfl (Nat.le_of_ble_eq_true rfl) ?_
            apply Exists.intro
            refine ⟨fun w' K hK => ?_, ?_⟩
            (focus
              go_simp
              exact hK)
            refine os_done ⟨rfl, ?_⟩
            go_wp2_with fail
            refine bodyPost_ret (v := .tuple #[.agg (bs pubK).toArray, .agg (bs pubN).toArray, .slice (some ⟨gh, 0, none⟩) 12 12, .slice (some ⟨gt, 0, none⟩) 114 114])
              (results_pub Try.results22 rfl rfl rfl rfl (run_loadVar_mid _ g0 0 23 (bs pubK) _ (range_block P0.out) uK.out rfl i1.out) (run_loadVar_mid _ g1 0 25 (bs pubN) _ (range_block P1.out) uN.out rfl i2.out)) rfl
              ⟨gh, gt, rfl, Sl.of_block B19.out rfl 12 rfl, Sl.of_block F20.out rfl 114 pubT_len, by omega, by omega, ?_⟩
            exact ((Fr.of_below (below_drewN X7.out.bel 1)).trans hS0 (fun i _ h => h)).to_below (fun i hi e => by rcases e with e | e <;> omega)
      · refine wp_buildSlice_bytes 26 5 114 PP iB pubT rfl (hpp _) pubT_len ⟨by omega, by omega⟩ uS HiB.out HzB.out HsB.out ?_
        intro gt wt Et Ht hbt
        have B20 : Hid (wt.heap[gt]? = some (.cells (bs pubT).toArray 5 (0, 0))) := Ht
        have e20 : w7.heap.size ≤ gt := by have := Et.out; have := hS0.size; omega
        try have nht : gh ≠ gt := fun e => by have := (Array.getElem?_eq_some_iff.1 B19.out).1; have := Et.out; have := hbt.size; omega
        try replace G0 := Lib.hid (heap_bel G0.out hbt)
        try replace G1 := Lib.hid (heap_bel G1.out hbt)
        try replace P0 := Lib.hid (heap_bel P0.out hbt)
        try replace P1 := Lib.hid (heap_bel P1.out hbt)
        try replace B19 := Lib.hid (heap_bel B19.out hbt)
        clear Et Ht
        refine hK _ _ ⟨fun _ _ h => Fr.tr h ((Fr.of_below (M := (fun j => j = g0 ∨ j = g1)) hbt)), ?_⟩
        clear hK
        replace hS0 := Fr.tr hS0 ((Fr.of_below (M := (fun j => j = g0 ∨ j = g1)) hbt))
        simp only [Act.put, List.setIfInBounds_toArray, List.set_cons_succ, List.set_cons_zero]
        refine o3_three rfl rfl rfl rfl rfl rfl (fun K hK => ?_) (fun K hK => ?_) (fun K hK => ?_)
        · refine wp_buildSlice_bytes 26 5 12 _ iB pubH rfl (by kernel_rfl) rfl (by decide) uS HiB.out HzB.out HsB.out ?_
          intro gh wh Eh Hh hbh
          have B19 : Hid (wh.heap[gh]? = some (.cells (bs pubH).toArray 5 (0, 0))) := Hh
          have e19 : w7.heap.size ≤ gh := by have := Eh.out; have := hS0.size; omega
          try have nht : gh ≠ gt := fun e => by have := (Array.getElem?_eq_some_iff.1 B20.out).1; have := Eh.out; have := hbh.size; omega
          try replace G0 := Lib.hid (heap_bel G0.out hbh)
          try replace G1 := Lib.hid (heap_bel G1.out hbh)
          try replace P0 := Lib.hid (heap_bel P0.out hbh)
          try replace P1 := Lib.hid (heap_bel P1.out hbh)
          try replace F20 := Lib.hid (heap_bel F20.out hbh)
          try replace B20 := Lib.hid (heap_bel B20.out hbh)
          clear Eh Hh
          refine hK _ _ ⟨fun _ _ h => Fr.tr h ((Fr.of_below (M := (fun j => j = g0 ∨ j = g1)) hbh)), ?_⟩
          clear hK
          replace hS0 := Fr.tr hS0 ((Fr.of_below (M := (fun j => j = g0 ∨ j = g1)) hbh))
          simp only [Act.put, List.setIfInBounds_toArray, List.set_cons_succ, List.set_cons_zero]
          refine o3_os ?_
          refine os_two rfl rfl rfl rfl (fun K hK => ?_) (fun K hK => ?_)
          · refine wp_mark 26 5 (.tmp 20) gt 114 114 (bs pubT).toArray rfl rfl B20.out uS uB ?_
            intro wm Hm hgm
            have F20 : Hid (wm.heap[gt]? = some (.cells (bs pubT).toArray 5 ((bs pubT).toArray.size, (bs pubT).toArray.size + 1))) := Hm
            try replace G0 := Lib.hid (heap_gr hgm G0.out (by omega))
            try replace G1 := Lib.hid (heap_gr hgm G1.out (by omega))
            try replace P0 := Lib.hid (heap_gr hgm P0.out (by omega))
            try replace P1 := Lib.hid (heap_gr hgm P1.out (by omega))
            try replace B19 := Lib.hid (heap_gr hgm B19.out (by omega))
            clear Hm B20
            refine hK _ _ ⟨fun _ _ _ => hS0.trans (Fr.of_grown hgm) (fun i hi e => by injection e with e; omega), ?_⟩
            clear hK
            replace hS0 := hS0.trans (Fr.of_grown hgm) (fun i hi e => by injection e with e; omega)
            simp only [Act.put, List.setIfInBounds_toArray, List.set_cons_succ, List.set_cons_zero]
            refine os_run rfl rfl (fun K hK => ?_)
            refine wp_store_abs 23 (.tmp 0) (.tmp 17) rfl g0 23 _ (bs pubK).toArray rfl rfl G0.out (by simpa using i1.out) (by simp [bs_length, pubK_len]) (by simp; exact bs_oneCell _) ?_
            intro wk Hk hgk
            have P0 : Hid (wk.heap[g0]? = some (.cells (bs pubK).toArray 23 (0, 0))) := Hk
            try replace G1 := Lib.hid (heap_gr hgk G1.out (by omega))
            try replace P1 := Lib.hid (heap_gr hgk P1.out (by omega))
            try replace B19 := Lib.hid (heap_gr hgk B19.out (by omega))
            try replace B20 := Lib.hid (heap_gr hgk B20.out (by omega))
            try replace F20 := Lib.hid (heap_gr hgk F20.out (by omega))
            clear Hk G0
            refine hK _ _ ⟨fun _ _ h => Fr.tr h (((Fr.of_grown hgk).mono (fun j _ e => .inl (by injection e)))), ?_⟩
            clear hK
            replace hS0 := Fr.tr hS0 (((Fr.of_grown hgk).mono (fun j _ e => .inl (by injection e))))
            simp only [Act.put]
            refine os_run rfl rfl (fun K hK => ?_)
            refine wp_store_abs 25 (.tmp 1) (.tmp 18) rfl g1 25 _ (bs pubN).toArray rfl rfl G1.out (by simpa using i2.out) (by simp [bs_length, pubN]) (by simp; exact bs_oneCell _) ?_
            intro wn Hn hgn
            have P1 : Hid (wn.heap[g1]? = some (.cells (bs pubN).toArray 25 (0, 0))) := Hn
            try replace G0 := Lib.hid (heap_gr hgn G0.out (by omega))
            try replace P0 := Lib.hid (heap_gr hgn P0.out (by omega))
            try replace B19 := Lib.hid (heap_gr hgn B19.out (by omega))
            try replace B20 := Lib.hid (heap_gr hgn B20.out (by omega))
            try replace F20 := Lib.hid (heap_gr hgn F20.out (by omega))
            clear Hn G1
            refine hK _ _ ⟨fun _ hk => absurd hk List.not_mem_nil, ?_⟩
            clear hK
            replace hS0 := Fr.tr hS0 (((Fr.of_grown hgn).mono (fun j _ e => .inr (by injection e))))
            simp only [Act.put]
            refine os_move rfl rfl rfl (Nat.le_of_ble_eq_true rfl) ?_
            apply Exists.intro
            refine ⟨fun w' K hK => ?_, ?_⟩
            (focus
              go_simp
              exact hK)
            refine os_move rfl rfl rfl (Nat.le_of_ble_eq_true rfl) ?_
            apply Exists.intro
            refine ⟨fun w' K hK => ?_, ?_⟩
            (focus
              go_simp
              exact hK)
            refine os_done ⟨rfl, ?_⟩
            go_wp2_with fail
            refine bodyPost_ret (v := .tuple #[.agg (bs pubK).toArray, .agg (bs pubN).toArray, .slice (some ⟨gh, 0, none⟩) 12 12, .slice (some ⟨gt, 0, none⟩) 114 114])
              (results_pub Try.results22 rfl rfl rfl rfl (run_loadVar_mid _ g0 0 23 (bs pubK) _ (range_block P0.out) uK.out rfl i1.out) (run_loadVar_mid _ g1 0 25 (bs pubN) _ (range_block P1.out) uN.out rfl i2.out)) rfl
              ⟨gh, gt, rfl, Sl.of_block B19.out rfl 12 rfl, Sl.of_block F20.out rfl 114 pubT_len, by omega, by omega, ?_⟩
            exact ((Fr.of_below (below_drewN X7.out.bel 1)).trans hS0 (fun i _ h => h)).to_below (fun i hi e => by rcases e with e | e <;> omega)
          · refine wp_store_abs 23 (.tmp 0) (.tmp 17) rfl g0 23 _ (bs pubK).toArray rfl rfl G0.out (by simpa using i1.out) (by simp [bs_length, pubK_len]) (by simp; exact bs_oneCell _) ?_
            intro wk Hk hgk
            have P0 : Hid (wk.heap[g0]? = some (.cells (bs pubK).toArray 23 (0, 0))) := Hk
            try replace G1 := Lib.hid (heap_gr hgk G1.out (by omega))
            try replace P1 := Lib.hid (heap_gr hgk P1.out (by omega))
            try replace B19 := Lib.hid (heap_gr hgk B19.out (by omega))
            try replace B20 := Lib.hid (heap_gr hgk B20.out (by omega))
            try replace F20 := Lib.hid (heap_gr hgk F20.out (by omega))
            clear Hk G0
            refine hK _ _ ⟨fun _ _ h => Fr.tr h (((Fr.of_grown hgk).mono (fun j _ e => .inl (by injection e)))), ?_⟩
            clear hK
            replace hS0 := Fr.tr hS0 (((Fr.of_grown hgk).mono (fun j _ e => .inl (by injection e))))
            simp only [Act.put]
            refine os_two rfl rfl rfl rfl (fun K hK => ?_) (fun K hK => ?_)
            · refine wp_mark 26 5 (.tmp 20) gt 114 114 (bs pubT).toArray rfl rfl B20.out uS uB ?_
              intro wm Hm hgm
              have F20 : Hid (wm.heap[gt]? = some (.cells (bs pubT).toArray 5 ((bs pubT).toArray.size, (bs pubT).toArray.size + 1))) := Hm
              try replace G0 := Lib.hid (heap_gr hgm G0.out (by omega))
              try replace G1 := Lib.hid (heap_gr hgm G1.out (by omega))
              try replace P0 := Lib.hid (heap_gr hgm P0.out (by omega))
              try replace P1 := Lib.hid (heap_gr hgm P1.out (by omega))
              try replace B19 := Lib.hid (heap_gr hgm B19.out (by omega))
              clear Hm B20
              refine hK _ _ ⟨fun _ _ _ => hS0.trans (Fr.of_grown hgm) (fun i hi e => by injection e with e; omega), ?_⟩
              clear hK
              replace hS0 := hS0.trans (Fr.of_grown hgm) (fun i hi e => by injection e with e; omega)
              simp only [Act.put, List.setIfInBounds_toArray, List.set_cons_succ, List.set_cons_zero]
              refine os_run rfl rfl (fun K hK => ?_)
              refine wp_store_abs 25 (.tmp 1) (.tmp 18) rfl g1 25 _ (bs pubN).toArray rfl rfl G1.out (by simpa using i2.out) (by simp [bs_length, pubN]) (by simp; exact bs_oneCell _) ?_
              intro wn Hn hgn
              have P1 : Hid (wn.heap[g1]? = some (.cells (bs pubN).toArray 25 (0, 0))) := Hn
              try replace G0 := Lib.hid (heap_gr hgn G0.out (by omega))
              try replace P0 := Lib.hid (heap_gr hgn P0.out (by omega))
              try replace B19 := Lib.hid (heap_gr hgn B19.out (by omega))
              try replace B20 := Lib.hid (heap_gr hgn B20.out (by omega))
              try replace F20 := Lib.hid (heap_gr hgn F20.out (by omega))
              clear Hn G1
              refine hK _ _ ⟨fun _ hk => absurd hk List.not_mem_nil, ?_⟩
              clear hK
              replace hS0 := Fr.tr hS0 (((Fr.of_grown hgn).mono (fun j _ e => .inr (by injection e))))
              simp only [Act.put]
              refine os_move rfl rfl rfl (Nat.le_of_ble_eq_true rfl) ?_
              apply Exists.intro
              refine ⟨fun w' K hK => ?_, ?_⟩
              (focus
                go_simp
                exact hK)
              refine os_move rfl rfl rfl (Nat.le_of_ble_eq_true rfl) ?_
              apply Exists.intro
              refine ⟨fun w' K hK => ?_, ?_⟩
              (focus
                go_simp
                exact hK)
              refine os_done ⟨rfl, ?_⟩
              go_wp2_with fail
              refine bodyPost_ret (v := .tuple #[.agg (bs pubK).toArray, .agg (bs pubN).toArray, .slice (some ⟨gh, 0, none⟩) 12 12, .slice (some ⟨gt, 0, none⟩) 114 114])
                (results_pub Try.results22 rfl rfl rfl rfl (run_loadVar_mid _ g0 0 23 (bs pubK) _ (range_block P0.out) uK.out rfl i1.out) (run_loadVar_mid _ g1 0 25 (bs pubN) _ (range_block P1.out) uN.out rfl i2.out)) rfl
                ⟨gh, gt, rfl, Sl.of_block B19.out rfl 12 rfl, Sl.of_block F20.out rfl 114 pubT_len, by omega, by omega, ?_⟩
              exact ((Fr.of_below (below_drewN X7.out.bel 1)).trans hS0 (fun i _ h => h)).to_below (fun i hi e => by rcases e with e | e <;> omega)
            · refine wp_store_abs 25 (.tmp 1) (.tmp 18) rfl g1 25 _ (bs pubN).toArray rfl rfl G1.out (by simpa using i2.out) (by simp [bs_length, pubN]) (by simp; exact bs_oneCell _) ?_
              intro wn Hn hgn
              have P1 : Hid (wn.heap[g1]? = some (.cells (bs pubN).toArray 25 (0, 0))) := Hn
              try replace G0 := Lib.hid (heap_gr hgn G0.out (by omega))
              try replace P0 := Lib.hid (heap_gr hgn P0.out (by omega))
              try replace B19 := Lib.hid (heap_gr hgn B19.out (by omega))
              try replace B20 := Lib.hid (heap_gr hgn B20.out (by omega))
              try replace F20 := Lib.hid (heap_gr hgn F20.out (by omega))
              clear Hn G1
              refine hK _ _ ⟨fun _ hk => absurd hk List.not_mem_nil, ?_⟩
              clear hK
              replace hS0 := Fr.tr hS0 (((Fr.of_grown hgn).mono (fun j _ e => .inr (by injection e))))
              simp only [Act.put]
              refine os_move rfl rfl rfl (Nat.le_of_ble_eq_true rfl) ?_
              apply Exists.intro
              refine ⟨fun w' K hK => ?_, ?_⟩
              (focus
                go_simp
                exact hK)
              refine os_run rfl rfl (fun K hK => ?_)
              refine wp_mark 26 5 (.tmp 20) gt 114 114 (bs pubT).toArray rfl rfl B20.out uS uB ?_
              intro wm Hm hgm
              have F20 : Hid (wm.heap[gt]? = some (.cells (bs pubT).toArray 5 ((bs pubT).toArray.size, (bs pubT).toArray.size + 1))) := Hm
              try replace G0 := Lib.hid (heap_gr hgm G0.out (by omega))
              try replace G1 := Lib.hid (heap_gr hgm G1.out (by omega))
              try replace P0 := Lib.hid (heap_gr hgm P0.out (by omega))
              try replace P1 := Lib.hid (heap_gr hgm P1.out (by omega))
              try replace B19 := Lib.hid (heap_gr hgm B19.out (by omega))
              clear Hm B20
              refine hK _ _ ⟨fun _ _ _ => hS0.trans (Fr.of_grown hgm) (fun i hi e => by injection e with e; omega), ?_⟩
              clear hK
              replace hS0 := hS0.trans (Fr.of_grown hgm) (fun i hi e => by injection e with e; omega)
              simp only [Act.put, List.setIfInBounds_toArray, List.set_cons_succ, List.set_cons_zero]
              refine os_move rfl rfl rfl (Nat.le_of_ble_eq_true rfl) ?_
              apply Exists.intro
              refine ⟨fun w' K hK => ?_, ?_⟩
              (focus
                go_simp
                exact hK)
              refine os_done ⟨rfl, ?_⟩
              go_wp2_with fail
              refine bodyPost_ret (v := .tuple #[.agg (bs pubK).toArray, .agg (bs pubN).toArray, .slice (some ⟨gh, 0, none⟩) 12 12, .slice (some ⟨gt, 0, none⟩) 114 114])
                (results_pub Try.results22 rfl rfl rfl rfl (run_loadVar_mid _ g0 0 23 (bs pubK) _ (range_block P0.out) uK.out rfl i1.out) (run_loadVar_mid _ g1 0 25 (bs pubN) _ (range_block P1.out) uN.out rfl i2.out)) rfl
                ⟨gh, gt, rfl, Sl.of_block B19.out rfl 12 rfl, Sl.of_block F20.out rfl 114 pubT_len, by omega, by omega, ?_⟩
              exact ((Fr.of_below (below_drewN X7.out.bel 1)).trans hS0 (fun i _ h => h)).to_below (fun i hi e => by rcases e with e | e <;> omega)
        · refine wp_mark 26 5 (.tmp 20) gt 114 114 (bs pubT).toArray rfl rfl B20.out uS uB ?_
          intro wm Hm hgm
          have F20 : Hid (wm.heap[gt]? = some (.cells (bs pubT).toArray 5 ((bs pubT).toArray.size, (bs pubT).toArray.size + 1))) := Hm
          try replace G0 := Lib.hid (heap_gr hgm G0.out (by omega))
          try replace G1 := Lib.hid (heap_gr hgm G1.out (by omega))
          try replace P0 := Lib.hid (heap_gr hgm P0.out (by omega))
          try replace P1 := Lib.hid (heap_gr hgm P1.out (by omega))
          try replace B19 := Lib.hid (heap_gr hgm B19.out (by omega))
          clear Hm B20
          refine hK _ _ ⟨fun _ _ _ => hS0.trans (Fr.of_grown hgm) (fun i hi e => by injection e with e; omega), ?_⟩
          clear hK
          replace hS0 := hS0.trans (Fr.of_grown hgm) (fun i hi e => by injection e with e; omega)
          simp only [Act.put, List.setIfInBounds_toArray, List.set_cons_succ, List.set_cons_zero]
          refine o3_os ?_
          refine os_two rfl rfl rfl rfl (fun K hK => ?_) (fun K hK => ?_)
          · refine wp_buildSlice_bytes 26 5 12 _ iB pubH rfl (by kernel_rfl) rfl (by decide) uS HiB.out HzB.out HsB.out ?_
            intro gh wh Eh Hh hbh
            have B19 : Hid (wh.heap[gh]? = some (.cells (bs pubH).toArray 5 (0, 0))) := Hh
            have e19 : w7.heap.size ≤ gh := by have := Eh.out; have := hS0.size; omega
            try have nht : gh ≠ gt := fun e => by have := (Array.getElem?_eq_some_iff.1 B20.out).1; have := Eh.out; have := hbh.size; omega
            try replace G0 := Lib.hid (heap_bel G0.out hbh)
            try replace G1 := Lib.hid (heap_bel G1.out hbh)
            try replace P0 := Lib.hid (heap_bel P0.out hbh)
            try replace P1 := Lib.hid (heap_bel P1.out hbh)
            try replace F20 := Lib.hid (heap_bel F20.out hbh)
            try replace B20 := Lib.hid (heap_bel B20.out hbh)
            clear Eh Hh
            refine hK _ _ ⟨fun _ _ h => Fr.tr h ((Fr.of_below (M := (fun j => j = g0 ∨ j = g1)) hbh)), ?_⟩
            clear hK
            replace hS0 := Fr.tr hS0 ((Fr.of_below (M := (fun j => j = g0 ∨ j = g1)) hbh))
            simp only [Act.put, List.setIfInBounds_toArray, List.set_cons_succ, List.set_cons_zero]
            refine os_run rfl rfl (fun K hK => ?_)
            refine wp_store_abs 23 (.tmp 0) (.tmp 17) rfl g0 23 _ (bs pubK).toArray rfl rfl G0.out (by simpa using i1.out) (by simp [bs_length, pubK_len]) (by simp; exact bs_oneCell _) ?_
            intro wk Hk hgk
            have P0 : Hid (wk.heap[g0]? = some (.cells (bs pubK).toArray 23 (0, 0))) := Hk
            try replace G1 := Lib.hid (heap_gr hgk G1.out (by omega))
            try replace P1 := Lib.hid (heap_gr hgk P1.out (by omega))
            try replace B19 := Lib.hid (heap_gr hgk B19.out (by omega))
            try replace B20 := Lib.hid (heap_gr hgk B20.out (by omega))
            try replace F20 := Lib.hid (heap_gr hgk F20.out (by omega))
            clear Hk G0
            refine hK _ _ ⟨fun _ _ h => Fr.tr h (((Fr.of_grown hgk).mono (fun j _ e => .inl (by injection e)))), ?_⟩
            clear hK
            replace hS0 := Fr.tr hS0 (((Fr.of_grown hgk).mono (fun j _ e => .inl (by injection e))))
            simp only [Act.put]
            refine os_run rfl rfl (fun K hK => ?_)
            refine wp_store_abs 25 (.tmp 1) (.tmp 18) rfl g1 25 _ (bs pubN).toArray rfl rfl G1.out (by simpa using i2.out) (by simp [bs_length, pubN]) (by simp; exact bs_oneCell _) ?_
            intro wn Hn hgn
            have P1 : Hid (wn.heap[g1]? = some (.cells (bs pubN).toArray 25 (0, 0))) := Hn
            try replace G0 := Lib.hid (heap_gr hgn G0.out (by omega))
            try replace P0 := Lib.hid (heap_gr hgn P0.out (by omega))
            try replace B19 := Lib.hid (heap_gr hgn B19.out (by omega))
            try replace B20 := Lib.hid (heap_gr hgn B20.out (by omega))
            try replace F20 := Lib.hid (heap_gr hgn F20.out (by omega))
            clear Hn G1
            refine hK _ _ ⟨fun _ hk => absurd hk List.not_mem_nil, ?_⟩
            clear hK
            replace hS0 := Fr.tr hS0 (((Fr.of_grown hgn).mono (fun j _ e => .inr (by injection e))))
            simp only [Act.put]
            refine os_move rfl rfl rfl (Nat.le_of_ble_eq_true rfl) ?_
            apply Exists.intro
            refine ⟨fun w' K hK => ?_, ?_⟩
            (focus
              go_simp
              exact hK)
            refine os_move rfl rfl rfl (Nat.le_of_ble_eq_true rfl) ?_
            apply Exists.intro
            refine ⟨fun w' K hK => ?_, ?_⟩
            (focus
              go_simp
              exact hK)
            refine os_done ⟨rfl, ?_⟩
            go_wp2_with fail
            refine bodyPost_ret (v := .tuple #[.agg (bs pubK).toArray, .agg (bs pubN).toArray, .slice (some ⟨gh, 0, none⟩) 12 12, .slice (some ⟨gt, 0, none⟩) 114 114])
              (results_pub Try.results22 rfl rfl rfl rfl (run_loadVar_mid _ g0 0 23 (bs pubK) _ (range_block P0.out) uK.out rfl i1.out) (run_loadVar_mid _ g1 0 25 (bs pubN) _ (range_block P1.out) uN.out rfl i2.out)) rfl
              ⟨gh, gt, rfl, Sl.of_block B19.out rfl 12 rfl, Sl.of_block F20.out rfl 114 pubT_len, by omega, by omega, ?_⟩
            exact ((Fr.of_below (below_drewN X7.out.bel 1)).trans hS0 (fun i _ h => h)).to_below (fun i hi e => by rcases e with e | e <;> omega)
          · refine wp_store_abs 23 (.tmp 0) (.tmp 17) rfl g0 23 _ (bs pubK).toArray rfl rfl G0.out (by simpa using i1.out) (by simp [bs_length, pubK_len]) (by simp; exact bs_oneCell _) ?_
            intro wk Hk hgk
            have P0 : Hid (wk.heap[g0]? = some (.cells (bs pubK).toArray 23 (0, 0))) := Hk
            try replace G1 := Lib.hid (heap_gr hgk G1.out (by omega))
            try replace P1 := Lib.hid (heap_gr hgk P1.out (by omega))
            try replace B19 := Lib.hid (heap_gr hgk B19.out (by omega))
            try replace B20 := Lib.hid (heap_gr hgk B20.out (by omega))
            try replace F20 := Lib.hid (heap_gr hgk F20.out (by omega))
            clear Hk G0
            refine hK _ _ ⟨fun _ _ h => Fr.tr h (((Fr.of_grown hgk).mono (fun j _ e => .inl (by injection e)))), ?_⟩
            clear hK
            replace hS0 := Fr.tr hS0 (((Fr.of_grown hgk).mono (fun j _ e => .inl (by injection e))))
            simp only [Act.put]
            refine os_two rfl rfl rfl rfl (fun K hK => ?_) (fun K hK => ?_)
            · refine wp_buildSlice_bytes 26 5 12 _ iB pubH rfl (by kernel_rfl) rfl (by decide) uS HiB.out HzB.out HsB.out ?_
              intro gh wh Eh Hh hbh
              have B19 : Hid (wh.heap[gh]? = some (.cells (bs pubH).toArray 5 (0, 0))) := Hh
              have e19 : w7.heap.size ≤ gh := by have := Eh.out; have := hS0.size; omega
              try have nht : gh ≠ gt := fun e => by have := (Array.getElem?_eq_some_iff.1 B20.out).1; have := Eh.out; have := hbh.size; omega
              try replace G0 := Lib.hid (heap_bel G0.out hbh)
              try replace G1 := Lib.hid (heap_bel G1.out hbh)
              try replace P0 := Lib.hid (heap_bel P0.out hbh)
              try replace P1 := Lib.hid (heap_bel P1.out hbh)
              try replace F20 := Lib.hid (heap_bel F20.out hbh)
              try replace B20 := Lib.hid (heap_bel B20.out hbh)
              clear Eh Hh
              refine hK _ _ ⟨fun _ _ h => Fr.tr h ((Fr.of_below (M := (fun j => j = g0 ∨ j = g1)) hbh)), ?_⟩
              clear hK
              replace hS0 := Fr.tr hS0 ((Fr.of_below (M := (fun j => j = g0 ∨ j = g1)) hbh))
              simp only [Act.put, List.setIfInBounds_toArray, List.set_cons_succ, List.set_cons_zero]
              refine os_run rfl rfl (fun K hK => ?_)
              refine wp_store_abs 25 (.tmp 1) (.tmp 18) rfl g1 25 _ (bs pubN).toArray rfl rfl G1.out (by simpa using i2.out) (by simp [bs_length, pubN]) (by simp; exact bs_oneCell _) ?_
              intro wn Hn hgn
              have P1 : Hid (wn.heap[g1]? = some (.cells (bs pubN).toArray 25 (0, 0))) := Hn
              try replace G0 := Lib.hid (heap_gr hgn G0.out (by omega))
              try replace P0 := Lib.hid (heap_gr hgn P0.out (by omega))
              try replace B19 := Lib.hid (heap_gr hgn B19.out (by omega))
              try replace B20 := Lib.hid (heap_gr hgn B20.out (by omega))
              try replace F20 := Lib.hid (heap_gr hgn F20.out (by omega))
              clear Hn G1
              refine hK _ _ ⟨fun _ hk => absurd hk List.not_mem_nil, ?_⟩
              clear hK
              replace hS0 := Fr.tr hS0 (((Fr.of_grown hgn).mono (fun j _ e => .inr (by injection e))))
              simp only [Act.put]
              refine os_move rfl rfl rfl (Nat.le_of_ble_eq_true rfl) ?_
              apply Exists.intro
              refine ⟨fun w' K hK => ?_, ?_⟩
              (focus
                go_simp
                exact hK)
              refine os_move rfl rfl rfl (Nat.le_of_ble_eq_true rfl) ?_
              apply Exists.intro
              refine ⟨fun w' K hK => ?_, ?_⟩
              (focus
                go_simp
                exact hK)
              refine os_done ⟨rfl, ?_⟩
              go_wp2_with fail
              refine bodyPost_ret (v := .tuple #[.agg (bs pubK).toArray, .agg (bs pubN).toArray, .slice (some ⟨gh, 0, none⟩) 12 12, .slice (some ⟨gt, 0, none⟩) 114 114])
                (results_pub Try.results22 rfl rfl rfl rfl (run_loadVar_mid _ g0 0 23 (bs pubK) _ (range_block P0.out) uK.out rfl i1.out) (run_loadVar_mid _ g1 0 25 (bs pubN) _ (range_block P1.out) uN.out rfl i2.out)) rfl
                ⟨gh, gt, rfl, Sl.of_block B19.out rfl 12 rfl, Sl.of_block F20.out rfl 114 pubT_len, by omega, by omega, ?_⟩
              exact ((Fr.of_below (below_drewN X7.out.bel 1)).trans hS0 (fun i _ h => h)).to_below (fun i hi e => by rcases e with e | e <;> omega)
            · refine wp_store_abs 25 (.tmp 1) (.tmp 18) rfl g1 25 _ (bs pubN).toArray rfl rfl G1.out (by simpa using i2.out) (by simp [bs_length, pubN]) (by simp; exact bs_oneCell _) ?_
              intro wn Hn hgn
              have P1 : Hid (wn.heap[g1]? = some (.cells (bs pubN).toArray 25 (0, 0))) := Hn
              try replace G0 := Lib.hid (heap_gr hgn G0.out (by omega))
              try replace P0 := Lib.hid (heap_gr hgn P0.out (by omega))
              try replace B19 := Lib.hid (heap_gr hgn B19.out (by omega))
              try replace B20 := Lib.hid (heap_gr hgn B20.out (by omega))
              try replace F20 := Lib.hid (heap_gr hgn F20.out (by omega))
              clear Hn G1
              refine hK _ _ ⟨fun _ hk => absurd hk List.not_mem_nil, ?_⟩
              clear hK
              replace hS0 := Fr.tr hS0 (((Fr.of_grown hgn).mono (fun j _ e => .inr (by injection e))))
              simp only [Act.put]
              refine os_run rfl rfl (fun K hK => ?_)
              refine wp_buildSlice_bytes 26 5 12 _ iB pubH rfl (by kernel_rfl) rfl (by decide) uS HiB.out HzB.out HsB.out ?_
              intro gh wh Eh Hh hbh
              have B19 : Hid (wh.heap[gh]? = some (.cells (bs pubH).toArray 5 (0, 0))) := Hh
              have e19 : w7.heap.size ≤ gh := by have := Eh.out; have := hS0.size; omega
              try have nht : gh ≠ gt := fun e => by have := (Array.getElem?_eq_some_iff.1 B20.out).1; have := Eh.out; have := hbh.size; omega
              try replace G0 := Lib.hid (heap_bel G0.out hbh)
              try replace G1 := Lib.hid (heap_bel G1.out hbh)
              try replace P0 := Lib.hid (heap_bel P0.out hbh)
              try replace P1 := Lib.hid (heap_bel P1.out hbh)
              try replace F20 := Lib.hid (heap_bel F20.out hbh)
              try replace B20 := Lib.hid (heap_bel B20.out hbh)
              clear Eh Hh
              refine hK _ _ ⟨fun _ _ h => Fr.tr h ((Fr.of_below (M := (fun j => j = g0 ∨ j = g1)) hbh)), ?_⟩
              clear hK
              replace hS0 := Fr.tr hS0 ((Fr.of_below (M := (fun j => j = g0 ∨ j = g1)) hbh))
              simp only [Act.put, List.setIfInBounds_toArray, List.set_cons_succ, List.set_cons_zero]
              refine os_move rfl rfl rfl (Nat.le_of_ble_eq_true rfl) ?_
              apply Exists.intro
              refine ⟨fun w' K hK => ?_, ?_⟩
              (focus
                go_simp
                exact hK)
              refine os_move rfl rfl rfl (Nat.le_of_ble_eq_true rfl) ?_
              apply Exists.intro
              refine ⟨fun w' K hK => ?_, ?_⟩
              (focus
                go_simp
                exact hK)
              refine os_done ⟨rfl, ?_⟩
              go_wp2_with fail
              refine bodyPost_ret (v := .tuple #[.agg (bs pubK).toArray, .agg (bs pubN).toArray, .slice (some ⟨gh, 0, none⟩) 12 12, .slice (some ⟨gt, 0, none⟩) 114 114])
                (results_pub Try.results22 rfl rfl rfl rfl (run_loadVar_mid _ g0 0 23 (bs pubK) _ (range_block P0.out) uK.out rfl i1.out) (run_loadVar_mid _ g1 0 25 (bs pubN) _ (range_block P1.out) uN.out rfl i2.out)) rfl
                ⟨gh, gt, rfl, Sl.of_block B19.out rfl 12 rfl, Sl.of_block F20.out rfl 114 pubT_len, by omega, by omega, ?_⟩
              exact ((Fr.of_below (below_drewN X7.out.bel 1)).trans hS0 (fun i _ h => h)).to_below (fun i hi e => by rcases e with e | e <;> omega)
        · refine wp_store_abs 23 (.tmp 0) (.tmp 17) rfl g0 23 _ (bs pubK).toArray rfl rfl G0.out (by simpa using i1.out) (by simp [bs_length, pubK_len]) (by simp; exact bs_oneCell _) ?_
          intro wk Hk hgk
          have P0 : Hid (wk.heap[g0]? = some (.cells (bs pubK).toArray 23 (0, 0))) := Hk
          try replace G1 := Lib.hid (heap_gr hgk G1.out (by omega))
          try replace P1 := Lib.hid (heap_gr hgk P1.out (by omega))
          try replace B19 := Lib.hid (heap_gr hgk B19.out (by omega))
          try replace B20 := Lib.hid (heap_gr hgk B20.out (by omega))
          try replace F20 := Lib.hid (heap_gr hgk F20.out (by omega))
          clear Hk G0
          refine hK _ _ ⟨fun _ _ h => Fr.tr h (((Fr.of_grown hgk).mono (fun j _ e => .inl (by injection e)))), ?_⟩
          clear hK
          replace hS0 := Fr.tr hS0 (((Fr.of_grown hgk).mono (fun j _ e => .inl (by injection e))))
          simp only [Act.put]
          refine o3_three rfl rfl rfl rfl rfl rfl (fun K hK => ?_) (fun K hK => ?_) (fun K hK => ?_)
          · refine wp_buildSlice_bytes 26 5 12 _ iB pubH rfl (by kernel_rfl) rfl (by decide) uS HiB.out HzB.out HsB.out ?_
            intro gh wh Eh Hh hbh
            have B19 : Hid (wh.heap[gh]? = some (.cells (bs pubH).toArray 5 (0, 0))) := Hh
            have e19 : w7.heap.size ≤ gh := by have := Eh.out; have := hS0.size; omega
            try have nht : gh ≠ gt := fun e => by have := (Array.getElem?_eq_some_iff.1 B20.out).1; have := Eh.out; have := hbh.size; omega
            try replace G0 := Lib.hid (heap_bel G0.out hbh)
            try replace G1 := Lib.hid (heap_bel G1.out hbh)
            try replace P0 := Lib.hid (heap_bel P0.out hbh)
            try replace P1 := Lib.hid (heap_bel P1.out hbh)
            try replace F20 := Lib.hid (heap_bel F20.out hbh)
            try replace B20 := Lib.hid (heap_bel B20.out hbh)
            clear Eh Hh
            refine hK _ _ ⟨fun _ _ h => Fr.tr h ((Fr.of_below (M := (fun j => j = g0 ∨ j = g1)) hbh)), ?_⟩
            clear hK
            replace hS0 := Fr.tr hS0 ((Fr.of_below (M := (fun j => j = g0 ∨ j = g1)) hbh))
            simp only [Act.put, List.setIfInBounds_toArray, List.set_cons_succ, List.set_cons_zero]
            refine o3_os ?_
            refine os_two rfl rfl rfl rfl (fun K hK => ?_) (fun K hK => ?_)
            · refine wp_mark 26 5 (.tmp 20) gt 114 114 (bs pubT).toArray rfl rfl B20.out uS uB ?_
              intro wm Hm hgm
              have F20 : Hid (wm.heap[gt]? = some (.cells (bs pubT).toArray 5 ((bs pubT).toArray.size, (bs pubT).toArray.size + 1))) := Hm
              try replace G0 := Lib.hid (heap_gr hgm G0.out (by omega))
              try replace G1 := Lib.hid (heap_gr hgm G1.out (by omega))
              try replace P0 := Lib.hid (heap_gr hgm P0.out (by omega))
              try replace P1 := Lib.hid (heap_gr hgm P1.out (by omega))
              try replace B19 := Lib.hid (heap_gr hgm B19.out (by omega))
              clear Hm B20
              refine hK _ _ ⟨fun _ _ _ => hS0.trans (Fr.of_grown hgm) (fun i hi e => by injection e with e; omega), ?_⟩
              clear hK
              replace hS0 := hS0.trans (Fr.of_grown hgm) (fun i hi e => by injection e with e; omega)
              simp only [Act.put, List.setIfInBounds_toArray, List.set_cons_succ, List.set_cons_zero]
              refine os_run rfl rfl (fun K hK => ?_)
              refine wp_store_abs 25 (.tmp 1) (.tmp 18) rfl g1 25 _ (bs pubN).toArray rfl rfl G1.out (by simpa using i2.out) (by simp [bs_length, pubN]) (by simp; exact bs_oneCell _) ?_
              intro wn Hn hgn
              have P1 : Hid (wn.heap[g1]? = some (.cells (bs pubN).toArray 25 (0, 0))) := Hn
              try replace G0 := Lib.hid (heap_gr hgn G0.out (by omega))
              try replace P0 := Lib.hid (heap_gr hgn P0.out (by omega))
              try replace B19 := Lib.hid (heap_gr hgn B19.out (by omega))
              try replace B20 := Lib.hid (heap_gr hgn B20.out (by omega))
              try replace F20 := Lib.hid (heap_gr hgn F20.out (by omega))
              clear Hn G1
              refine hK _ _ ⟨fun _ hk => absurd hk List.not_mem_nil, ?_⟩
              clear hK
              replace hS0 := Fr.tr hS0 (((Fr.of_grown hgn).mono (fun j _ e => .inr (by injection e))))
              simp only [Act.put]
              refine os_move rfl rfl rfl (Nat.le_of_ble_eq_true rfl) ?_
              apply Exists.intro
              refine ⟨fun w' K hK => ?_, ?_⟩
              (focus
                go_simp
                exact hK)
              refine os_move rfl rfl rfl (Nat.le_of_ble_eq_true rfl) ?_
              apply Exists.intro
              refine ⟨fun w' K hK => ?_, ?_⟩
              (focus
                go_simp
                exact hK)
              refine os_done ⟨rfl, ?_⟩
              go_wp2_with fail
              refine bodyPost_ret (v := .tuple #[.agg (bs pubK).toArray, .agg (bs pubN).toArray, .slice (some ⟨gh, 0, none⟩) 12 12, .slice (some ⟨gt, 0, none⟩) 114 114])
                (results_pub Try.results22 rfl rfl rfl rfl (run_loadVar_mid _ g0 0 23 (bs pubK) _ (range_block P0.out) uK.out rfl i1.out) (run_loadVar_mid _ g1 0 25 (bs pubN) _ (range_block P1.out) uN.out rfl i2.out)) rfl
                ⟨gh, gt, rfl, Sl.of_block B19.out rfl 12 rfl, Sl.of_block F20.out rfl 114 pubT_len, by omega, by omega, ?_⟩
              exact ((Fr.of_below (below_drewN X7.out.bel 1)).trans hS0 (fun i _ h => h)).to_below (fun i hi e => by rcases e with e | e <;> omega)
            · refine wp_store_abs 25 (.tmp 1) (.tmp 18) rfl g1 25 _ (bs pubN).toArray rfl rfl G1.out (by simpa using i2.out) (by simp [bs_length, pubN]) (by simp; exact bs_oneCell _) ?_
              intro wn Hn hgn
              have P1 : Hid (wn.heap[g1]? = some (.cells (bs pubN).toArray 25 (0, 0))) := Hn
              try replace G0 := Lib.hid (heap_gr hgn G0.out (by omega))
              try replace P0 := Lib.hid (heap_gr hgn P0.out (by omega))
              try replace B19 := Lib.hid (heap_gr hgn B19.out (by omega))
              try replace B20 := Lib.hid (heap_gr hgn B20.out (by omega))
              try replace F20 := Lib.hid (heap_gr hgn F20.out (by omega))
              clear Hn G1
              refine hK _ _ ⟨fun _ hk => absurd hk List.not_mem_nil, ?_⟩
              clear hK
              replace hS0 := Fr.tr hS0 (((Fr.of_grown hgn).mono (fun j _ e => .inr (by injection e))))
              simp only [Act.put]
              refine os_move rfl rfl rfl (Nat.le_of_ble_eq_true rfl) ?_
              apply Exists.intro
              refine ⟨fun w' K hK => ?_, ?_⟩
              (focus
                go_simp
                exact hK)
              refine os_run rfl rfl (fun K hK => ?_)
              refine wp_mark 26 5 (.tmp 20) gt 114 114 (bs pubT).toArray rfl rfl B20.out uS uB ?_
              intro wm Hm hgm
              have F20 : Hid (wm.heap[gt]? = some (.cells (bs pubT).toArray 5 ((bs pubT).toArray.size, (bs pubT).toArray.size + 1))) := Hm
              try replace G0 := Lib.hid (heap_gr hgm G0.out (by omega))
              try replace G1 := Lib.hid (heap_gr hgm G1.out (by omega))
              try replace P0 := Lib.hid (heap_gr hgm P0.out (by omega))
              try replace P1 := Lib.hid (heap_gr hgm P1.out (by omega))
              try replace B19 := Lib.hid (heap_gr hgm B19.out (by omega))
              clear Hm B20
              refine hK _ _ ⟨fun _ _ _ => hS0.trans (Fr.of_grown hgm) (fun i hi e => by injection e with e; omega), ?_⟩
              clear hK
              replace hS0 := hS0.trans (Fr.of_grown hgm) (fun i hi e => by injection e with e; omega)
              simp only [Act.put, List.setIfInBounds_toArray, List.set_cons_succ, List.set_cons_zero]
              refine os_move rfl rfl rfl (Nat.le_of_ble_eq_true rfl) ?_
              apply Exists.intro
              refine ⟨fun w' K hK => ?_, ?_⟩
              (focus
                go_simp
                exact hK)
              refine os_done ⟨rfl, ?_⟩
              go_wp2_with fail
              refine bodyPost_ret (v := .tuple #[.agg (bs pubK).toArray, .agg (bs pubN).toArray, .slice (some ⟨gh, 0, none⟩) 12 12, .slice (some ⟨gt, 0, none⟩) 114 114])
                (results_pub Try.results22 rfl rfl rfl rfl (run_loadVar_mid _ g0 0 23 (bs pubK) _ (range_block P0.out) uK.out rfl i1.out) (run_loadVar_mid _ g1 0 25 (bs pubN) _ (range_block P1.out) uN.out rfl i2.out)) rfl
                ⟨gh, gt, rfl, Sl.of_block B19.out rfl 12 rfl, Sl.of_block F20.out rfl 114 pubT_len, by omega, by omega, ?_⟩
              exact ((Fr.of_below (below_drewN X7.out.bel 1)).trans hS0 (fun i _ h => h)).to_below (fun i hi e => by rcases e with e | e <;> omega)
          · refine wp_mark 26 5 (.tmp 20) gt 114 114 (bs pubT).toArray rfl rfl B20.out uS uB ?_
            intro wm Hm hgm
            have F20 : Hid (wm.heap[gt]? = some (.cells (bs pubT).toArray 5 ((bs pubT).toArray.size, (bs pubT).toArray.size + 1))) := Hm
            try replace G0 := Lib.hid (heap_gr hgm G0.out (by omega))
            try replace G1 := Lib.hid (heap_gr hgm G1.out (by omega))
            try replace P0 := Lib.hid (heap_gr hgm P0.out (by omega))
            try replace P1 := Lib.hid (heap_gr hgm P1.out (by omega))
            try replace B19 := Lib.hid (heap_gr hgm B19.out (by omega))
            clear Hm B20
            refine hK _ _ ⟨fun _ _ _ => hS0.trans (Fr.of_grown hgm) (fun i hi e => by injection e with e; omega), ?_⟩
            clear hK
            replace hS0 := hS0.trans (Fr.of_grown hgm) (fun i hi e => by injection e with e; omega)
            simp only [Act.put, List.setIfInBounds_toArray, List.set_cons_succ, List.set_cons_zero]
            refine o3_os ?_
            refine os_two rfl rfl rfl rfl (fun K hK => ?_) (fun K hK => ?_)
            · refine wp_buildSlice_bytes 26 5 12 _ iB pubH rfl (by kernel_rfl) rfl (by decide) uS HiB.out HzB.out HsB.out ?_
              intro gh wh Eh Hh hbh
              have B19 : Hid (wh.heap[gh]? = some (.cells (bs pubH).toArray 5 (0, 0))) := Hh
              have e19 : w7.heap.size ≤ gh := by have := Eh.out; have := hS0.size; omega
              try have nht : gh ≠ gt := fun e => by have := (Array.getElem?_eq_some_iff.1 B20.out).1; have := Eh.out; have := hbh.size; omega
              try replace G0 := Lib.hid (heap_bel G0.out hbh)
              try replace G1 := Lib.hid (heap_bel G1.out hbh)
              try replace P0 := Lib.hid (heap_bel P0.out hbh)
              try replace P1 := Lib.hid (heap_bel P1.out hbh)
              try replace F20 := Lib.hid (heap_bel F20.out hbh)
              try replace B20 := Lib.hid (heap_bel B20.out hbh)
              clear Eh Hh
              refine hK _ _ ⟨fun _ _ h => Fr.tr h ((Fr.of_below (M := (fun j => j = g0 ∨ j = g1)) hbh)), ?_⟩
              clear hK
              replace hS0 := Fr.tr hS0 ((Fr.of_below (M := (fun j => j = g0 ∨ j = g1)) hbh))
              simp only [Act.put, List.setIfInBounds_toArray, List.set_cons_succ, List.set_cons_zero]
              refine os_run rfl rfl (fun K hK => ?_)
              refine wp_store_abs 25 (.tmp 1) (.tmp 18) rfl g1 25 _ (bs pubN).toArray rfl rfl G1.out (by simpa using i2.out) (by simp [bs_length, pubN]) (by simp; exact bs_oneCell _) ?_
              intro wn Hn hgn
              have P1 : Hid (wn.heap[g1]? = some (.cells (bs pubN).toArray 25 (0, 0))) := Hn
              try replace G0 := Lib.hid (heap_gr hgn G0.out (by omega))
              try replace P0 := Lib.hid (heap_gr hgn P0.out (by omega))
              try replace B19 := Lib.hid (heap_gr hgn B19.out (by omega))
              try replace B20 := Lib.hid (heap_gr hgn B20.out (by omega))
              try replace F20 := Lib.hid (heap_gr hgn F20.out (by omega))
              clear Hn G1
              refine hK _ _ ⟨fun _ hk => absurd hk List.not_mem_nil, ?_⟩
              clear hK
              replace hS0 := Fr.tr hS0 (((Fr.of_grown hgn).mono (fun j _ e => .inr (by injection e))))
              simp only [Act.put]
              refine os_move rfl rfl rfl (Nat.le_of_ble_eq_true rfl) ?_
              apply Exists.intro
              refine ⟨fun w' K hK => ?_, ?_⟩
              (focus
                go_simp
                exact hK)
              refine os_move rfl rfl rfl (Nat.le_of_ble_eq_true rfl) ?_
              apply Exists.intro
              refine ⟨fun w' K hK => ?_, ?_⟩
              (focus
                go_simp
                exact hK)
              refine os_done ⟨rfl, ?_⟩
              go_wp2_with fail
              refine bodyPost_ret (v := .tuple #[.agg (bs pubK).toArray, .agg (bs pubN).toArray, .slice (some ⟨gh, 0, none⟩) 12 12, .slice (some ⟨gt, 0, none⟩) 114 114])
                (results_pub Try.results22 rfl rfl rfl rfl (run_loadVar_mid _ g0 0 23 (bs pubK) _ (range_block P0.out) uK.out rfl i1.out) (run_loadVar_mid _ g1 0 25 (bs pubN) _ (range_block P1.out) uN.out rfl i2.out)) rfl
                ⟨gh, gt, rfl, Sl.of_block B19.out rfl 12 rfl, Sl.of_block F20.out rfl 114 pubT_len, by omega, by omega, ?_⟩
              exact ((Fr.of_below (below_drewN X7.out.bel 1)).trans hS0 (fun i _ h => h)).to_below (fun i hi e => by rcases e with e | e <;> omega)
            · refine wp_store_abs 25 (.tmp 1) (.tmp 18) rfl g1 25 _ (bs pubN).toArray rfl rfl G1.out (by simpa using i2.out) (by simp [bs_length, pubN]) (by simp; exact bs_oneCell _) ?_
              intro wn Hn hgn
              have P1 : Hid (wn.heap[g1]? = some (.cells (bs pubN).toArray 25 (0, 0))) := Hn
              try replace G0 := Lib.hid (heap_gr hgn G0.out (by omega))
              try replace P0 := Lib.hid (heap_gr hgn P0.out (by omega))
              try replace B19 := Lib.hid (heap_gr hgn B19.out (by omega))
              try replace B20 := Lib.hid (heap_gr hgn B20.out (by omega))
              try replace F20 := Lib.hid (heap_gr hgn F20.out (by omega))
              clear Hn G1
              refine hK _ _ ⟨fun _ hk => absurd hk List.not_mem_nil, ?_⟩
              clear hK
              replace hS0 := Fr.tr hS0 (((Fr.of_grown hgn).mono (fun j _ e => .inr (by injection e))))
              simp only [Act.put]
              refine os_run rfl rfl (fun K hK => ?_)
              refine wp_buildSlice_bytes 26 5 12 _ iB pubH rfl (by kernel_rfl) rfl (by decide) uS HiB.out HzB.out HsB.out ?_
              intro gh wh Eh Hh hbh
              have B19 : Hid (wh.heap[gh]? = some (.cells (bs pubH).toArray 5 (0, 0))) := Hh
              have e19 : w7.heap.size ≤ gh := by have := Eh.out; have := hS0.size; omega
              try have nht : gh ≠ gt := fun e => by have := (Array.getElem?_eq_some_iff.1 B20.out).1; have := Eh.out; have := hbh.size; omega
              try replace G0 := Lib.hid (heap_bel G0.out hbh)
              try replace G1 := Lib.hid (heap_bel G1.out hbh)
              try replace P0 := Lib.hid (heap_bel P0.out hbh)
              try replace P1 := Lib.hid (heap_bel P1.out hbh)
              try replace F20 := Lib.hid (heap_bel F20.out hbh)
              try replace B20 := Lib.hid (heap_bel B20.out hbh)
              clear Eh Hh
              refine hK _ _ ⟨fun _ _ h => Fr.tr h ((Fr.of_below (M := (fun j => j = g0 ∨ j = g1)) hbh)), ?_⟩
              clear hK
              replace hS0 := Fr.tr hS0 ((Fr.of_below (M := (fun j => j = g0 ∨ j = g1)) hbh))
              simp only [Act.put, List.setIfInBounds_toArray, List.set_cons_succ, List.set_cons_zero]
              refine os_move rfl rfl rfl (Nat.le_of_ble_eq_true rfl) ?_
              apply Exists.intro
              refine ⟨fun w' K hK => ?_, ?_⟩
              (focus
                go_simp
                exact hK)
              refine os_move rfl rfl rfl (Nat.le_of_ble_eq_true rfl) ?_
              apply Exists.intro
              refine ⟨fun w' K hK => ?_, ?_⟩
              (focus
                go_simp
                exact hK)
              refine os_done ⟨rfl, ?_⟩
              go_wp2_with fail
              refine bodyPost_ret (v := .tuple #[.agg (bs pubK).toArray, .agg (bs pubN).toArray, .slice (some ⟨gh, 0, none⟩) 12 12, .slice (some ⟨gt, 0, none⟩) 114 114])
                (results_pub Try.results22 rfl rfl rfl rfl (run_loadVar_mid _ g0 0 23 (bs pubK) _ (range_block P0.out) uK.out rfl i1.out) (run_loadVar_mid _ g1 0 25 (bs pubN) _ (range_block P1.out) uN.out rfl i2.out)) rfl
                ⟨gh, gt, rfl, Sl.of_block B19.out rfl 12 rfl, Sl.of_block F20.out rfl 114 pubT_len, by omega, by omega, ?_⟩
              exact ((Fr.of_below (below_drewN X7.out.bel 1)).trans hS0 (fun i _ h => h)).to_below (fun i hi e => by rcases e with e | e <;> omega)
          · refine wp_store_abs 25 (.tmp 1) (.tmp 18) rfl g1 25 _ (bs pubN).toArray rfl rfl G1.out (by simpa using i2.out) (by simp [bs_length, pubN]) (by simp; exact bs_oneCell _) ?_
            intro wn Hn hgn
            have P1 : Hid (wn.heap[g1]? = some (.cells (bs pubN).toArray 25 (0, 0))) := Hn
            try replace G0 := Lib.hid (heap_gr hgn G0.out (by omega))
            try replace P0 := Lib.hid (heap_gr hgn P0.out (by omega))
            try replace B19 := Lib.hid (heap_gr hgn B19.out (by omega))
            try replace B20 := Lib.hid (heap_gr hgn B20.out (by omega))
            try replace F20 := Lib.hid (heap_gr hgn F20.out (by omega))
            clear Hn G1
            refine hK _ _ ⟨fun _ hk => absurd hk List.not_mem_nil, ?_⟩
            clear hK
            replace hS0 := Fr.tr hS0 (((Fr.of_grown hgn).mono (fun j _ e => .inr (by injection e))))
            simp only [Act.put]
            refine o3_os ?_
            refine os_two rfl rfl rfl rfl (fun K hK => ?_) (fun K hK => ?_)
            · refine wp_buildSlice_bytes 26 5 12 _ iB pubH rfl (by kernel_rfl) rfl (by decide) uS HiB.out HzB.out HsB.out ?_
              intro gh wh Eh Hh hbh
              have B19 : Hid (wh.heap[gh]? = some (.cells (bs pubH).toArray 5 (0, 0))) := Hh
              have e19 : w7.heap.size ≤ gh := by have := Eh.out; have := hS0.size; omega
              try have nht : gh ≠ gt := fun e => by have := (Array.getElem?_eq_some_iff.1 B20.out).1; have := Eh.out; have := hbh.size; omega
              try replace G0 := Lib.hid (heap_bel G0.out hbh)
              try replace G1 := Lib.hid (heap_bel G1.out hbh)
              try replace P0 := Lib.hid (heap_bel P0.out hbh)
              try replace P1 := Lib.hid (heap_bel P1.out hbh)
              try replace F20 := Lib.hid (heap_bel F20.out hbh)
              try replace B20 := Lib.hid (heap_bel B20.out hbh)
              clear Eh Hh
              refine hK _ _ ⟨fun _ _ h => Fr.tr h ((Fr.of_below (M := (fun j => j = g0 ∨ j = g1)) hbh)), ?_⟩
              clear hK
              replace hS0 := Fr.tr hS0 ((Fr.of_below (M := (fun j => j = g0 ∨ j = g1)) hbh))
              simp only [Act.put, List.setIfInBounds_toArray, List.set_cons_succ, List.set_cons_zero]
              refine os_move rfl rfl rfl (Nat.le_of_ble_eq_true rfl) ?_
              apply Exists.intro
              refine ⟨fun w' K hK => ?_, ?_⟩
              (focus
                go_simp
                exact hK)
              refine os_run rfl rfl (fun K hK => ?_)
              refine wp_mark 26 5 (.tmp 20) gt 114 114 (bs pubT).toArray rfl rfl B20.out uS uB ?_
              intro wm Hm hgm
              have F20 : Hid (wm.heap[gt]? = some (.cells (bs pubT).toArray 5 ((bs pubT).toArray.size, (bs pubT).toArray.size + 1))) := Hm
              try replace G0 := Lib.hid (heap_gr hgm G0.out (by omega))
              try replace G1 := Lib.hid (heap_gr hgm G1.out (by omega))
              try replace P0 := Lib.hid (heap_gr hgm P0.out (by omega))
              try replace P1 := Lib.hid (heap_gr hgm P1.out (by omega))
              try replace B19 := Lib.hid (heap_gr hgm B19.out (by omega))
              clear Hm B20
              refine hK _ _ ⟨fun _ _ _ => hS0.trans (Fr.of_grown hgm) (fun i hi e => by injection e with e; omega), ?_⟩
              clear hK
              replace hS0 := hS0.trans (Fr.of_grown hgm) (fun i hi e => by injection e with e; omega)
              simp only [Act.put, List.setIfInBounds_toArray, List.set_cons_succ, List.set_cons_zero]
              refine os_move rfl rfl rfl (Nat.le_of_ble_eq_true rfl) ?_
              apply Exists.intro
              refine ⟨fun w' K hK => ?_, ?_⟩
              (focus
                go_simp
                exact hK)
              refine os_done ⟨rfl, ?_⟩
              go_wp2_with fail
              refine bodyPost_ret (v := .tuple #[.agg (bs pubK).toArray, .agg (bs pubN).toArray, .slice (some ⟨gh, 0, none⟩) 12 12, .slice (some ⟨gt, 0, none⟩) 114 114])
                (results_pub Try.results22 rfl rfl rfl rfl (run_loadVar_mid _ g0 0 23 (bs pubK) _ (range_block P0.out) uK.out rfl i1.out) (run_loadVar_mid _ g1 0 25 (bs pubN) _ (range_block P1.out) uN.out rfl i2.out)) rfl
                ⟨gh, gt, rfl, Sl.of_block B19.out rfl 12 rfl, Sl.of_block F20.out rfl 114 pubT_len, by omega, by omega, ?_⟩
              exact ((Fr.of_below (below_drewN X7.out.bel 1)).trans hS0 (fun i _ h => h)).to_below (fun i hi e => by rcases e with e | e <;> omega)
            · refine wp_mark 26 5 (.tmp 20) gt 114 114 (bs pubT).toArray rfl rfl B20.out uS uB ?_
              intro wm Hm hgm
              have F20 : Hid (wm.heap[gt]? = some (.cells (bs pubT).toArray 5 ((bs pubT).toArray.size, (bs pubT).toArray.size + 1))) := Hm
              try replace G0 := Lib.hid (heap_gr hgm G0.out (by omega))
              try replace G1 := Lib.hid (heap_gr hgm G1.out (by omega))
              try replace P0 := Lib.hid (heap_gr hgm P0.out (by omega))
              try replace P1 := Lib.hid (heap_gr hgm P1.out (by omega))
              try replace B19 := Lib.hid (heap_gr hgm B19.out (by omega))
              clear Hm B20
              refine hK _ _ ⟨fun _ _ _ => hS0.trans (Fr.of_grown hgm) (fun i hi e => by injection e with e; omega), ?_⟩
              clear hK
              replace hS0 := hS0.trans (Fr.of_grown hgm) (fun i hi e => by injection e with e; omega)
              simp only [Act.put, List.setIfInBounds_toArray, List.set_cons_succ, List.set_cons_zero]
              refine os_run rfl rfl (fun K hK => ?_)
              refine wp_buildSlice_bytes 26 5 12 _ iB pubH rfl (by kernel_rfl) rfl (by decide) uS HiB.out HzB.out HsB.out ?_
              intro gh wh Eh Hh hbh
              have B19 : Hid (wh.heap[gh]? = some (.cells (bs pubH).toArray 5 (0, 0))) := Hh
              have e19 : w7.heap.size ≤ gh := by have := Eh.out; have := hS0.size; omega
              try have nht : gh ≠ gt := fun e => by have := (Array.getElem?_eq_some_iff.1 B20.out).1; have := Eh.out; have := hbh.size; omega
              try replace G0 := Lib.hid (heap_bel G0.out hbh)
              try replace G1 := Lib.hid (heap_bel G1.out hbh)
              try replace P0 := Lib.hid (heap_bel P0.out hbh)
              try replace P1 := Lib.hid (heap_bel P1.out hbh)
              try replace F20 := Lib.hid (heap_bel F20.out hbh)
              try replace B20 := Lib.hid (heap_bel B20.out hbh)
              clear Eh Hh
              refine hK _ _ ⟨fun _ _ h => Fr.tr h ((Fr.of_below (M := (fun j => j = g0 ∨ j = g1)) hbh)), ?_⟩
              clear hK
              replace hS0 := Fr.tr hS0 ((Fr.of_below (M := (fun j => j = g0 ∨ j = g1)) hbh))
              simp only [Act.put, List.setIfInBounds_toArray, List.set_cons_succ, List.set_cons_zero]
              refine os_move rfl rfl rfl (Nat.le_of_ble_eq_true rfl) ?_
              apply Exists.intro
              refine ⟨fun w' K hK => ?_, ?_⟩
              (focus
                go_simp
                exact hK)
              refine os_move rfl rfl rfl (Nat.le_of_ble_eq_true rfl) ?_
              apply Exists.intro
              refine ⟨fun w' K hK => ?_, ?_⟩
              (focus
                go_simp
                exact hK)
              refine os_done ⟨rfl, ?_⟩
              go_wp2_with fail
              refine bodyPost_ret (v := .tuple #[.agg (bs pubK).toArray, .agg (bs pubN).toArray, .slice (some ⟨gh, 0, none⟩) 12 12, .slice (some ⟨gt, 0, none⟩) 114 114])
                (results_pub Try.results22 rfl rfl rfl rfl (run_loadVar_mid _ g0 0 23 (bs pubK) _ (range_block P0.out) uK.out rfl i1.out) (run_loadVar_mid _ g1 0 25 (bs pubN) _ (range_block P1.out) uN.out rfl i2.out)) rfl
                ⟨gh, gt, rfl, Sl.of_block B19.out rfl 12 rfl, Sl.of_block F20.out rfl 114 pubT_len, by omega, by omega, ?_⟩
              exact ((Fr.of_below (below_drewN X7.out.bel 1)).trans hS0 (fun i _ h => h)).to_below (fun i hi e => by rcases e with e | e <;> omega)
      · refine wp_store_abs 23 (.tmp 0) (.tmp 17) rfl g0 23 _ (bs pubK).toArray rfl rfl G0.out (by simpa using i1.out) (by simp [bs_length, pubK_len]) (by simp; exact bs_oneCell _) ?_
        intro wk Hk hgk
        have P0 : Hid (wk.heap[g0]? = some (.cells (bs pubK).toArray 23 (0, 0))) := Hk
        try replace G1 := Lib.hid (heap_gr hgk G1.out (by omega))
        try replace P1 := Lib.hid (heap_gr hgk P1.out (by omega))
        try replace B19 := Lib.hid (heap_gr hgk B19.out (by omega))
        try replace B20 := Lib.hid (heap_gr hgk B20.out (by omega))
        try replace F20 := Lib.hid (heap_gr hgk F20.out (by omega))
        clear Hk G0
        refine hK _ _ ⟨fun _ _ h => Fr.tr h (((Fr.of_grown hgk).mono (fun j _ e => .inl (by injection e)))), ?_⟩
        clear hK
        replace hS0 := Fr.tr hS0 (((Fr.of_grown hgk).mono (fun j _ e => .inl (by injection e))))
        simp only [Act.put]
        refine o3_three rfl rfl rfl rfl rfl rfl (fun K hK => ?_) (fun K hK => ?_) (fun K hK => ?_)
        · refine wp_buildSlice_bytes 26 5 12 _ iB pubH rfl (by kernel_rfl) rfl (by decide) uS HiB.out HzB.out HsB.out ?_
          intro gh wh Eh Hh hbh
          have B19 : Hid (wh.heap[gh]? = some (.cells (bs pubH).toArray 5 (0, 0))) := Hh
          have e19 : w7.heap.size ≤ gh := by have := Eh.out; have := hS0.size; omega
          try have nht : gh ≠ gt := fun e => by have := (Array.getElem?_eq_some_iff.1 B20.out).1; have := Eh.out; have := hbh.size; omega
          try replace G0 := Lib.hid (heap_bel G0.out hbh)
          try replace G1 := Lib.hid (heap_bel G1.out hbh)
          try replace P0 := Lib.hid (heap_bel P0.out hbh)
          try replace P1 := Lib.hid (heap_bel P1.out hbh)
          try replace F20 := Lib.hid (heap_bel F20.out hbh)
          try replace B20 := Lib.hid (heap_bel B20.out hbh)
          clear Eh Hh
          refine hK _ _ ⟨fun _ _ h => Fr.tr h ((Fr.of_below (M := (fun j => j = g0 ∨ j = g1)) hbh)), ?_⟩
          clear hK
          replace hS0 := Fr.tr hS0 ((Fr.of_below (M := (fun j => j = g0 ∨ j = g1)) hbh))
          simp only [Act.put, List.setIfInBounds_toArray, List.set_cons_succ, List.set_cons_zero]
          refine o3_os ?_
          refine os_two rfl rfl rfl rfl (fun K hK => ?_) (fun K hK => ?_)
          · refine wp_buildSlice_bytes 26 5 114 PP iB pubT rfl (hpp _) pubT_len ⟨by omega, by omega⟩ uS HiB.out HzB.out HsB.out ?_
            intro gt wt Et Ht hbt
            have B20 : Hid (wt.heap[gt]? = some (.cells (bs pubT).toArray 5 (0, 0))) := Ht
            have e20 : w7.heap.size ≤ gt := by have := Et.out; have := hS0.size; omega
            try have nht : gh ≠ gt := fun e => by have := (Array.getElem?_eq_some_iff.1 B19.out).1; have := Et.out; have := hbt.size; omega
            try replace G0 := Lib.hid (heap_bel G0.out hbt)
            try replace G1 := Lib.hid (heap_bel G1.out hbt)
            try replace P0 := Lib.hid (heap_bel P0.out hbt)
            try replace P1 := Lib.hid (heap_bel P1.out hbt)
            try replace B19 := Lib.hid (heap_bel B19.out hbt)
            clear Et Ht
            refine hK _ _ ⟨fun _ _ h => Fr.tr h ((Fr.of_below (M := (fun j => j = g0 ∨ j = g1)) hbt)), ?_⟩
            clear hK
            replace hS0 := Fr.tr hS0 ((Fr.of_below (M := (fun j => j = g0 ∨ j = g1)) hbt))
            simp only [Act.put, List.setIfInBounds_toArray, List.set_cons_succ, List.set_cons_zero]
            refine os_two rfl rfl rfl rfl (fun K hK => ?_) (fun K hK => ?_)
            · refine wp_mark 26 5 (.tmp 20) gt 114 114 (bs pubT).toArray rfl rfl B20.out uS uB ?_
              intro wm Hm hgm
              have F20 : Hid (wm.heap[gt]? = some (.cells (bs pubT).toArray 5 ((bs pubT).toArray.size, (bs pubT).toArray.size + 1))) := Hm
              try replace G0 := Lib.hid (heap_gr hgm G0.out (by omega))
              try replace G1 := Lib.hid (heap_gr hgm G1.out (by omega))
              try replace P0 := Lib.hid (heap_gr hgm P0.out (by omega))
              try replace P1 := Lib.hid (heap_gr hgm P1.out (by omega))
              try replace B19 := Lib.hid (heap_gr hgm B19.out (by omega))
              clear Hm B20
              refine hK _ _ ⟨fun _ _ _ => hS0.trans (Fr.of_grown hgm) (fun i hi e => by injection e with e; omega), ?_⟩
              clear hK
              replace hS0 := hS0.trans (Fr.of_grown hgm) (fun i hi e => by injection e with e; omega)
              simp only [Act.put, List.setIfInBounds_toArray, List.set_cons_succ, List.set_cons_zero]
              refine os_run rfl rfl (fun K hK => ?_)
              refine wp_store_abs 25 (.tmp 1) (.tmp 18) rfl g1 25 _ (bs pubN).toArray rfl rfl G1.out (by simpa using i2.out) (by simp [bs_length, pubN]) (by simp; exact bs_oneCell _) ?_
              intro wn Hn hgn
              have P1 : Hid (wn.heap[g1]? = some (.cells (bs pubN).toArray 25 (0, 0))) := Hn
              try replace G0 := Lib.hid (heap_gr hgn G0.out (by omega))
              try replace P0 := Lib.hid (heap_gr hgn P0.out (by omega))
              try replace B19 := Lib.hid (heap_gr hgn B19.out (by omega))
              try replace B20 := Lib.hid (heap_gr hgn B20.out (by omega))
              try replace F20 := Lib.hid (heap_gr hgn F20.out (by omega))
              clear Hn G1
              refine hK _ _ ⟨fun _ hk => absurd hk List.not_mem_nil, ?_⟩
              clear hK
              replace hS0 := Fr.tr hS0 (((Fr.of_grown hgn).mono (fun j _ e => .inr (by injection e))))
              simp only [Act.put]
              refine os_move rfl rfl rfl (Nat.le_of_ble_eq_true rfl) ?_
              apply Exists.intro
              refine ⟨fun w' K hK => ?_, ?_⟩
              (focus
                go_simp
                exact hK)
              refine os_move rfl rfl rfl (Nat.le_of_ble_eq_true rfl) ?_
              apply Exists.intro
              refine ⟨fun w' K hK => ?_, ?_⟩
              (focus
                go_simp
                exact hK)
              refine os_done ⟨rfl, ?_⟩
              go_wp2_with fail
              refine bodyPost_ret (v := .tuple #[.agg (bs pubK).toArray, .agg (bs pubN).toArray, .slice (some ⟨gh, 0, none⟩) 12 12, .slice (some ⟨gt, 0, none⟩) 114 114])
                (results_pub Try.results22 rfl rfl rfl rfl (run_loadVar_mid _ g0 0 23 (bs pubK) _ (range_block P0.out) uK.out rfl i1.out) (run_loadVar_mid _ g1 0 25 (bs pubN) _ (range_block P1.out) uN.out rfl i2.out)) rfl
                ⟨gh, gt, rfl, Sl.of_block B19.out rfl 12 rfl, Sl.of_block F20.out rfl 114 pubT_len, by omega, by omega, ?_⟩
              exact ((Fr.of_below (below_drewN X7.out.bel 1)).trans hS0 (fun i _ h => h)).to_below (fun i hi e => by rcases e with e | e <;> omega)
            · refine wp_store_abs 25 (.tmp 1) (.tmp 18) rfl g1 25 _ (bs pubN).toArray rfl rfl G1.out (by simpa using i2.out) (by simp [bs_length, pubN]) (by simp; exact bs_oneCell _) ?_
              intro wn Hn hgn
              have P1 : Hid (wn.heap[g1]? = some (.cells (bs pubN).toArray 25 (0, 0))) := Hn
              try replace G0 := Lib.hid (heap_gr hgn G0.out (by omega))
              try replace P0 := Lib.hid (heap_gr hgn P0.out (by omega))
              try replace B19 := Lib.hid (heap_gr hgn B19.out (by omega))
              try replace B20 := Lib.hid (heap_gr hgn B20.out (by omega))
              try replace F20 := Lib.hid (heap_gr hgn F20.out (by omega))
              clear Hn G1
              refine hK _ _ ⟨fun _ hk => absurd hk List.not_mem_nil, ?_⟩
              clear hK
              replace hS0 := Fr.tr hS0 (((Fr.of_grown hgn).mono (fun j _ e => .inr (by injection e))))
              simp only [Act.put]
              refine os_move rfl rfl rfl (Nat.le_of_ble_eq_true rfl) ?_
              apply Exists.intro
              refine ⟨fun w' K hK => ?_, ?_⟩
              (focus
                go_simp
                exact hK)
              refine os_run rfl rfl (fun K hK => ?_)
              refine wp_mark 26 5 (.tmp 20) gt 114 114 (bs pubT).toArray rfl rfl B20.out uS uB ?_
              intro wm Hm hgm
              have F20 : Hid (wm.heap[gt]? = some (.cells (bs pubT).toArray 5 ((bs pubT).toArray.size, (bs pubT).toArray.size + 1))) := Hm
              try replace G0 := Lib.hid (heap_gr hgm G0.out (by omega))
              try replace G1 := Lib.hid (heap_gr hgm G1.out (by omega))
              try replace P0 := Lib.hid (heap_gr hgm P0.out (by omega))
              try replace P1 := Lib.hid (heap_gr hgm P1.out (by omega))
              try replace B19 := Lib.hid (heap_gr hgm B19.out (by omega))
              clear Hm B20
              refine hK _ _ ⟨fun _ _ _ => hS0.trans (Fr.of_grown hgm) (fun i hi e => by injection e with e; omega), ?_⟩
              clear hK
              replace hS0 := hS0.trans (Fr.of_grown hgm) (fun i hi e => by injection e with e; omega)
              simp only [Act.put, List.setIfInBounds_toArray, List.set_cons_succ, List.set_cons_zero]
              refine os_move rfl rfl rfl (Nat.le_of_ble_eq_true rfl) ?_
              apply Exists.intro
              refine ⟨fun w' K hK => ?_, ?_⟩
              (focus
                go_simp
                exact hK)
              refine os_done ⟨rfl, ?_⟩
              go_wp2_with fail
              refine bodyPost_ret (v := .tuple #[.agg (bs pubK).toArray, .agg (bs pubN).toArray, .slice (some ⟨gh, 0, none⟩) 12 12, .slice (some ⟨gt, 0, none⟩) 114 114])
                (results_pub Try.results22 rfl rfl rfl rfl (run_loadVar_mid _ g0 0 23 (bs pubK) _ (range_block P0.out) uK.out rfl i1.out) (run_loadVar_mid _ g1 0 25 (bs pubN) _ (range_block P1.out) uN.out rfl i2.out)) rfl
                ⟨gh, gt, rfl, Sl.of_block B19.out rfl 12 rfl, Sl.of_block F20.out rfl 114 pubT_len, by omega, by omega, ?_⟩
              exact ((Fr.of_below (below_drewN X7.out.bel 1)).trans hS0 (fun i _ h => h)).to_below (fun i hi e => by rcases e with e | e <;> omega)
          · refine wp_store_abs 25 (.tmp 1) (.tmp 18) rfl g1 25 _ (bs pubN).toArray rfl rfl G1.out (by simpa using i2.out) (by simp [bs_length, pubN]) (by simp; exact bs_oneCell _) ?_
            intro wn Hn hgn
            have P1 : Hid (wn.heap[g1]? = some (.cells (bs pubN).toArray 25 (0, 0))) := Hn
            try replace G0 := Lib.hid (heap_gr hgn G0.out (by omega))
            try replace P0 := Lib.hid (heap_gr hgn P0.out (by omega))
            try replace B19 := Lib.hid (heap_gr hgn B19.out (by omega))
            try replace B20 := Lib.hid (heap_gr hgn B20.out (by omega))
            try replace F20 := Lib.hid (heap_gr hgn F20.out (by omega))
            clear Hn G1
            refine hK _ _ ⟨fun _ hk => absurd hk List.not_mem_nil, ?_⟩
            clear hK
            replace hS0 := Fr.tr hS0 (((Fr.of_grown hgn).mono (fun j _ e => .inr (by injection e))))
            simp only [Act.put]
            refine os_move rfl rfl rfl (Nat.le_of_ble_eq_true rfl) ?_
            apply Exists.intro
            refine ⟨fun w' K hK => ?_, ?_⟩
            (focus
              go_simp
              exact hK)
            refine os_run rfl rfl (fun K hK => ?_)
            refine wp_buildSlice_bytes 26 5 114 PP iB pubT rfl (hpp _) pubT_len ⟨by omega, by omega⟩ uS HiB.out HzB.out HsB.out ?_
            intro gt wt Et Ht hbt
            have B20 : Hid (wt.heap[gt]? = some (.cells (bs pubT).toArray 5 (0, 0))) := Ht
            have e20 : w7.heap.size ≤ gt := by have := Et.out; have := hS0.size; omega
            try have nht : gh ≠ gt := fun e => by have := (Array.getElem?_eq_some_iff.1 B19.out).1; have := Et.out; have := hbt.size; omega
            try replace G0 := Lib.hid (heap_bel G0.out hbt)
            try replace G1 := Lib.hid (heap_bel G1.out hbt)
            try replace P0 := Lib.hid (heap_bel P0.out hbt)
            try replace P1 := Lib.hid (heap_bel P1.out hbt)
            try replace B19 := Lib.hid (heap_bel B19.out hbt)
            clear Et Ht
            refine hK _ _ ⟨fun _ _ h => Fr.tr h ((Fr.of_below (M := (fun j => j = g0 ∨ j = g1)) hbt)), ?_⟩
            clear hK
            replace hS0 := Fr.tr hS0 ((Fr.of_below (M := (fun j => j = g0 ∨ j = g1)) hbt))
            simp only [Act.put, List.setIfInBounds_toArray, List.set_cons_succ, List.set_cons_zero]
            refine os_run rfl rfl (fun K hK => ?_)
            refine wp_mark 26 5 (.tmp 20) gt 114 114 (bs pubT).toArray rfl rfl B20.out uS uB ?_
            intro wm Hm hgm
            have F20 : Hid (wm.heap[gt]? = some (.cells (bs pubT).toArray 5 ((bs pubT).toArray.size, (bs pubT).toArray.size + 1))) := Hm
            try replace G0 := Lib.hid (heap_gr hgm G0.out (by omega))
            try replace G1 := Lib.hid (heap_gr hgm G1.out (by omega))
            try replace P0 := Lib.hid (heap_gr hgm P0.out (by omega))
            try replace P1 := Lib.hid (heap_gr hgm P1.out (by omega))
            try replace B19 := Lib.hid (heap_gr hgm B19.out (by omega))
            clear Hm B20
            refine hK _ _ ⟨fun _ _ _ => hS0.trans (Fr.of_grown hgm) (fun i hi e => by injection e with e; omega), ?_⟩
            clear hK
            replace hS0 := hS0.trans (Fr.of_grown hgm) (fun i hi e => by injection e with e; omega)
            simp only [Act.put, List.setIfInBounds_toArray, List.set_cons_succ, List.set_cons_zero]
            refine os_move rfl rfl rfl (Nat.le_of_ble_eq_true rfl) ?_
            apply Exists.intro
            refine ⟨fun w' K hK => ?_, ?_⟩
            (focus
              go_simp
              exact hK)
            refine os_done ⟨rfl, ?_⟩
            go_wp2_with fail
            refine bodyPost_ret (v := .tuple #[.agg (bs pubK).toArray, .agg (bs pubN).toArray, .slice (some ⟨gh, 0, none⟩) 12 12, .slice (some ⟨gt, 0, none⟩) 114 114])
              (results_pub Try.results22 rfl rfl rfl rfl (run_loadVar_mid _ g0 0 23 (bs pubK) _ (range_block P0.out) uK.out rfl i1.out) (run_loadVar_mid _ g1 0 25 (bs pubN) _ (range_block P1.out) uN.out rfl i2.out)) rfl
              ⟨gh, gt, rfl, Sl.of_block B19.out rfl 12 rfl, Sl.of_block F20.out rfl 114 pubT_len, by omega, by omega, ?_⟩
            exact ((Fr.of_below (below_drewN X7.out.bel 1)).trans hS0 (fun i _ h => h)).to_below (fun i hi e => by rcases e with e | e <;> omega)
        · refine wp_buildSlice_bytes 26 5 114 PP iB pubT rfl (hpp _) pubT_len ⟨by omega, by omega⟩ uS HiB.out HzB.out HsB.out ?_
          intro gt wt Et Ht hbt
          have B20 : Hid (wt.heap[gt]? = some (.cells (bs pubT).toArray 5 (0, 0))) := Ht
          have e20 : w7.heap.size ≤ gt := by have := Et.out; have := hS0.size; omega
          try have nht : gh ≠ gt := fun e => by have := (Array.getElem?_eq_some_iff.1 B19.out).1; have := Et.out; have := hbt.size; omega
          try replace G0 := Lib.hid (heap_bel G0.out hbt)
          try replace G1 := Lib.hid (heap_bel G1.out hbt)
          try replace P0 := Lib.hid (heap_bel P0.out hbt)
          try replace P1 := Lib.hid (heap_bel P1.out hbt)
          try replace B19 := Lib.hid (heap_bel B19.out hbt)
          clear Et Ht
          refine hK _ _ ⟨fun _ _ h => Fr.tr h ((Fr.of_below (M := (fun j => j = g0 ∨ j = g1)) hbt)), ?_⟩
          clear hK
          replace hS0 := Fr.tr hS0 ((Fr.of_below (M := (fun j => j = g0 ∨ j = g1)) hbt))
          simp only [Act.put, List.setIfInBounds_toArray, List.set_cons_succ, List.set_cons_zero]
          refine o3_three rfl rfl rfl rfl rfl rfl (fun K hK => ?_) (fun K hK => ?_) (fun K hK => ?_)
          · refine wp_buildSlice_bytes 26 5 12 _ iB pubH rfl (by kernel_rfl) rfl (by decide) uS HiB.out HzB.out HsB.out ?_
            intro gh wh Eh Hh hbh
            have B19 : Hid (wh.heap[gh]? = some (.cells (bs pubH).toArray 5 (0, 0))) := Hh
            have e19 : w7.heap.size ≤ gh := by have := Eh.out; have := hS0.size; omega
            try have nht : gh ≠ gt := fun e => by have := (Array.getElem?_eq_some_iff.1 B20.out).1; have := Eh.out; have := hbh.size; omega
            try replace G0 := Lib.hid (heap_bel G0.out hbh)
            try replace G1 := Lib.hid (heap_bel G1.out hbh)
            try replace P0 := Lib.hid (heap_bel P0.out hbh)
            try replace P1 := Lib.hid (heap_bel P1.out hbh)
            try replace F20 := Lib.hid (heap_bel F20.out hbh)
            try replace B20 := Lib.hid (heap_bel B20.out hbh)
            clear Eh Hh
            refine hK _ _ ⟨fun _ _ h => Fr.tr h ((Fr.of_below (M := (fun j => j = g0 ∨ j = g1)) hbh)), ?_⟩
            clear hK
            replace hS0 := Fr.tr hS0 ((Fr.of_below (M := (fun j => j = g0 ∨ j = g1)) hbh))
            simp only [Act.put, List.setIfInBounds_toArray, List.set_cons_succ, List.set_cons_zero]
            refine o3_os ?_
            refine os_two rfl rfl rfl rfl (fun K hK => ?_) (fun K hK => ?_)
            · refine wp_mark 26 5 (.tmp 20) gt 114 114 (bs pubT).toArray rfl rfl B20.out uS uB ?_
              intro wm Hm hgm
              have F20 : Hid (wm.heap[gt]? = some (.cells (bs pubT).toArray 5 ((bs pubT).toArray.size, (bs pubT).toArray.size + 1))) := Hm
              try replace G0 := Lib.hid (heap_gr hgm G0.out (by omega))
              try replace G1 := Lib.hid (heap_gr hgm G1.out (by omega))
              try replace P0 := Lib.hid (heap_gr hgm P0.out (by omega))
              try replace P1 := Lib.hid (heap_gr hgm P1.out (by omega))
              try replace B19 := Lib.hid (heap_gr hgm B19.out (by omega))
              clear Hm B20
              refine hK _ _ ⟨fun _ _ _ => hS0.trans (Fr.of_grown hgm) (fun i hi e => by injection e with e; omega), ?_⟩
              clear hK
              replace hS0 := hS0.trans (Fr.of_grown hgm) (fun i hi e => by injection e with e; omega)
              simp only [Act.put, List.setIfInBounds_toArray, List.set_cons_succ, List.set_cons_zero]
              refine os_run rfl rfl (fun K hK => ?_)
              refine wp_store_abs 25 (.tmp 1) (.tmp 18) rfl g1 25 _ (bs pubN).toArray rfl rfl G1.out (by simpa using i2.out) (by simp [bs_length, pubN]) (by simp; exact bs_oneCell _) ?_
              intro wn Hn hgn
              have P1 : Hid (wn.heap[g1]? = some (.cells (bs pubN).toArray 25 (0, 0))) := Hn
              try replace G0 := Lib.hid (heap_gr hgn G0.out (by omega))
              try replace P0 := Lib.hid (heap_gr hgn P0.out (by omega))
              try replace B19 := Lib.hid (heap_gr hgn B19.out (by omega))
              try replace B20 := Lib.hid (heap_gr hgn B20.out (by omega))
              try replace F20 := Lib.hid (heap_gr hgn F20.out (by omega))
              clear Hn G1
              refine hK _ _ ⟨fun _ hk => absurd hk List.not_mem_nil, ?_⟩
              clear hK
              replace hS0 := Fr.tr hS0 (((Fr.of_grown hgn).mono (fun j _ e => .inr (by injection e))))
              simp only [Act.put]
              refine os_move rfl rfl rfl (Nat.le_of_ble_eq_true rfl) ?_
              apply Exists.intro
              refine ⟨fun w' K hK => ?_, ?_⟩
              (focus
                go_simp
                exact hK)
              refine os_move rfl rfl rfl (Nat.le_of_ble_eq_true rfl) ?_
              apply Exists.intro
              refine ⟨fun w' K hK => ?_, ?_⟩
              (focus
                go_simp
                exact hK)
              refine os_done ⟨rfl, ?_⟩
              go_wp2_with fail
              refine bodyPost_ret (v := .tuple #[.agg (bs pubK).toArray, .agg (bs pubN).toArray, .slice (some ⟨gh, 0, none⟩) 12 12, .slice (some ⟨gt, 0, none⟩) 114 114])
                (results_pub Try.results22 rfl rfl rfl rfl (run_loadVar_mid _ g0 0 23 (bs pubK) _ (range_block P0.out) uK.out rfl i1.out) (run_loadVar_mid _ g1 0 25 (bs pubN) _ (range_block P1.out) uN.out rfl i2.out)) rfl
                ⟨gh, gt, rfl, Sl.of_block B19.out rfl 12 rfl, Sl.of_block F20.out rfl 114 pubT_len, by omega, by omega, ?_⟩
              exact ((Fr.of_below (below_drewN X7.out.bel 1)).trans hS0 (fun i _ h => h)).to_below (fun i hi e => by rcases e with e | e <;> omega)
            · refine wp_store_abs 25 (.tmp 1) (.tmp 18) rfl g1 25 _ (bs pubN).toArray rfl rfl G1.out (by simpa using i2.out) (by simp [bs_length, pubN]) (by simp; exact bs_oneCell _) ?_
              intro wn Hn hgn
              have P1 : Hid (wn.heap[g1]? = some (.cells (bs pubN).toArray 25 (0, 0))) := Hn
              try replace G0 := Lib.hid (heap_gr hgn G0.out (by omega))
              try replace P0 := Lib.hid (heap_gr hgn P0.out (by omega))
              try replace B19 := Lib.hid (heap_gr hgn B19.out (by omega))
              try replace B20 := Lib.hid (heap_gr hgn B20.out (by omega))
              try replace F20 := Lib.hid (heap_gr hgn F20.out (by omega))
              clear Hn G1
              refine hK _ _ ⟨fun _ hk => absurd hk List.not_mem_nil, ?_⟩
              clear hK
              replace hS0 := Fr.tr hS0 (((Fr.of_grown hgn).mono (fun j _ e => .inr (by injection e))))
              simp only [Act.put]
              refine os_move rfl rfl rfl (Nat.le_of_ble_eq_true rfl) ?_
              apply Exists.intro
              refine ⟨fun w' K hK => ?_, ?_⟩
              (focus
                go_simp
                exact hK)
              refine os_run rfl rfl (fun K hK => ?_)
              refine wp_mark 26 5 (.tmp 20) gt 114 114 (bs pubT).toArray rfl rfl B20.out uS uB ?_
              intro wm Hm hgm
              have F20 : Hid (wm.heap[gt]? = some (.cells (bs pubT).toArray 5 ((bs pubT).toArray.size, (bs pubT).toArray.size + 1))) := Hm
              try replace G0 := Lib.hid (heap_gr hgm G0.out (by omega))
              try replace G1 := Lib.hid (heap_gr hgm G1.out (by omega))
              try replace P0 := Lib.hid (heap_gr hgm P0.out (by omega))
              try replace P1 := Lib.hid (heap_gr hgm P1.out (by omega))
              try replace B19 := Lib.hid (heap_gr hgm B19.out (by omega))
              clear Hm B20
              refine hK _ _ ⟨fun _ _ _ => hS0.trans (Fr.of_grown hgm) (fun i hi e => by injection e with e; omega), ?_⟩
              clear hK
              replace hS0 := hS0.trans (Fr.of_grown hgm) (fun i hi e => by injection e with e; omega)
              simp only [Act.put, List.setIfInBounds_toArray, List.set_cons_succ, List.set_cons_zero]
              refine os_move rfl rfl rfl (Nat.le_of_ble_eq_true rfl) ?_
              apply Exists.intro
              refine ⟨fun w' K hK => ?_, ?_⟩
              (focus
                go_simp
                exact hK)
              refine os_done ⟨rfl, ?_⟩
              go_wp2_with fail
              refine bodyPost_ret (v := .tuple #[.agg (bs pubK).toArray, .agg (bs pubN).toArray, .slice (some ⟨gh, 0, none⟩) 12 12, .slice (some ⟨gt, 0, none⟩) 114 114])
                (results_pub Try.results22 rfl rfl rfl rfl (run_loadVar_mid _ g0 0 23 (bs pubK) _ (range_block P0.out) uK.out rfl i1.out) (run_loadVar_mid _ g1 0 25 (bs pubN) _ (range_block P1.out) uN.out rfl i2.out)) rfl
                ⟨gh, gt, rfl, Sl.of_block B19.out rfl 12 rfl, Sl.of_block F20.out rfl 114 pubT_len, by omega, by omega, ?_⟩
              exact ((Fr.of_below (below_drewN X7.out.bel 1)).trans hS0 (fun i _ h => h)).to_below (fun i hi e => by rcases e with e | e <;> omega)
          · refine wp_mark 26 5 (.tmp 20) gt 114 114 (bs pubT).toArray rfl rfl B20.out uS uB ?_
            intro wm Hm hgm
            have F20 : Hid (wm.heap[gt]? = some (.cells (bs pubT).toArray 5 ((bs pubT).toArray.size, (bs pubT).toArray.size + 1))) := Hm
            try replace G0 := Lib.hid (heap_gr hgm G0.out (by omega))
            try replace G1 := Lib.hid (heap_gr hgm G1.out (by omega))
            try replace P0 := Lib.hid (heap_gr hgm P0.out (by omega))
            try replace P1 := Lib.hid (heap_gr hgm P1.out (by omega))
            try replace B19 := Lib.hid (heap_gr hgm B19.out (by omega))
            clear Hm B20
            refine hK _ _ ⟨fun _ _ _ => hS0.trans (Fr.of_grown hgm) (fun i hi e => by injection e with e; omega), ?_⟩
            clear hK
            replace hS0 := hS0.trans (Fr.of_grown hgm) (fun i hi e => by injection e with e; omega)
            simp only [Act.put, List.setIfInBounds_toArray, List.set_cons_succ, List.set_cons_zero]
            refine o3_os ?_
            refine os_two rfl rfl rfl rfl (fun K hK => ?_) (fun K hK => ?_)
            · refine wp_buildSlice_bytes 26 5 12 _ iB pubH rfl (by kernel_rfl) rfl (by decide) uS HiB.out HzB.out HsB.out ?_
              intro gh wh Eh Hh hbh
              have B19 : Hid (wh.heap[gh]? = some (.cells (bs pubH).toArray 5 (0, 0))) := Hh
              have e19 : w7.heap.size ≤ gh := by have := Eh.out; have := hS0.size; omega
              try have nht : gh ≠ gt := fun e => by have := (Array.getElem?_eq_some_iff.1 B20.out).1; have := Eh.out; have := hbh.size; omega
              try replace G0 := Lib.hid (heap_bel G0.out hbh)
              try replace G1 := Lib.hid (heap_bel G1.out hbh)
              try replace P0 := Lib.hid (heap_bel P0.out hbh)
              try replace P1 := Lib.hid (heap_bel P1.out hbh)
              try replace F20 := Lib.hid (heap_bel F20.out hbh)
              try replace B20 := Lib.hid (heap_bel B20.out hbh)
              clear Eh Hh
              refine hK _ _ ⟨fun _ _ h => Fr.tr h ((Fr.of_below (M := (fun j => j = g0 ∨ j = g1)) hbh)), ?_⟩
              clear hK
              replace hS0 := Fr.tr hS0 ((Fr.of_below (M := (fun j => j = g0 ∨ j = g1)) hbh))
              simp only [Act.put, List.setIfInBounds_toArray, List.set_cons_succ, List.set_cons_zero]
              refine os_run rfl rfl (fun K hK => ?_)
              refine wp_store_abs 25 (.tmp 1) (.tmp 18) rfl g1 25 _ (bs pubN).toArray rfl rfl G1.out (by simpa using i2.out) (by simp [bs_length, pubN]) (by simp; exact bs_oneCell _) ?_
              intro wn Hn hgn
              have P1 : Hid (wn.heap[g1]? = some (.cells (bs pubN).toArray 25 (0, 0))) := Hn
              try replace G0 := Lib.hid (heap_gr hgn G0.out (by omega))
              try replace P0 := Lib.hid (heap_gr hgn P0.out (by omega))
              try replace B19 := Lib.hid (heap_gr hgn B19.out (by omega))
              try replace B20 := Lib.hid (heap_gr hgn B20.out (by omega))
              try replace F20 := Lib.hid (heap_gr hgn F20.out (by omega))
              clear Hn G1
              refine hK _ _ ⟨fun _ hk => absurd hk List.not_mem_nil, ?_⟩
              clear hK
              replace hS0 := Fr.tr hS0 (((Fr.of_grown hgn).mono (fun j _ e => .inr (by injection e))))
              simp only [Act.put]
              refine os_move rfl rfl rfl (Nat.le_of_ble_eq_true rfl) ?_
              apply Exists.intro
              refine ⟨fun w' K hK => ?_, ?_⟩
              (focus
                go_simp
                exact hK)
              refine os_move rfl rfl rfl (Nat.le_of_ble_eq_true rfl) ?_
              apply Exists.intro
              refine ⟨fun w' K hK => ?_, ?_⟩
              (focus
                go_simp
                exact hK)
              refine os_done ⟨rfl, ?_⟩
              go_wp2_with fail
              refine bodyPost_ret (v := .tuple #[.agg (bs pubK).toArray, .agg (bs pubN).toArray, .slice (some ⟨gh, 0, none⟩) 12 12, .slice (some ⟨gt, 0, none⟩) 114 114])
                (results_pub Try.results22 rfl rfl rfl rfl (run_loadVar_mid _ g0 0 23 (bs pubK) _ (range_block P0.out) uK.out rfl i1.out) (run_loadVar_mid _ g1 0 25 (bs pubN) _ (range_block P1.out) uN.out rfl i2.out)) rfl
                ⟨gh, gt, rfl, Sl.of_block B19.out rfl 12 rfl, Sl.of_block F20.out rfl 114 pubT_len, by omega, by omega, ?_⟩
              exact ((Fr.of_below (below_drewN X7.out.bel 1)).trans hS0 (fun i _ h => h)).to_below (fun i hi e => by rcases e with e | e <;> omega)
            · refine wp_store_abs 25 (.tmp 1) (.tmp 18) rfl g1 25 _ (bs pubN).toArray rfl rfl G1.out (by simpa using i2.out) (by simp [bs_length, pubN]) (by simp; exact bs_oneCell _) ?_
              intro wn Hn hgn
              have P1 : Hid (wn.heap[g1]? = some (.cells (bs pubN).toArray 25 (0, 0))) := Hn
              try replace G0 := Lib.hid (heap_gr hgn G0.out (by omega))
              try replace P0 := Lib.hid (heap_gr hgn P0.out (by omega))
              try replace B19 := Lib.hid (heap_gr hgn B19.out (by omega))
              try replace B20 := Lib.hid (heap_gr hgn B20.out (by omega))
              try replace F20 := Lib.hid (heap_gr hgn F20.out (by omega))
              clear Hn G1
              refine hK _ _ ⟨fun _ hk => absurd hk List.not_mem_nil, ?_⟩
              clear hK
              replace hS0 := Fr.tr hS0 (((Fr.of_grown hgn).mono (fun j _ e => .inr (by injection e))))
              simp only [Act.put]
              refine os_run rfl rfl (fun K hK => ?_)
              refine wp_buildSlice_bytes 26 5 12 _ iB pubH rfl (by kernel_rfl) rfl (by decide) uS HiB.out HzB.out HsB.out ?_
              intro gh wh Eh Hh hbh
              have B19 : Hid (wh.heap[gh]? = some (.cells (bs pubH).toArray 5 (0, 0))) := Hh
              have e19 : w7.heap.size ≤ gh := by have := Eh.out; have := hS0.size; omega
              try have nht : gh ≠ gt := fun e => by have := (Array.getElem?_eq_some_iff.1 B20.out).1; have := Eh.out; have := hbh.size; omega
              try replace G0 := Lib.hid (heap_bel G0.out hbh)
              try replace G1 := Lib.hid (heap_bel G1.out hbh)
              try replace P0 := Lib.hid (heap_bel P0.out hbh)
              try replace P1 := Lib.hid (heap_bel P1.out hbh)
              try replace F20 := Lib.hid (heap_bel F20.out hbh)
              try replace B20 := Lib.hid (heap_bel B20.out hbh)
              clear Eh Hh
              refine hK _ _ ⟨fun _ _ h => Fr.tr h ((Fr.of_below (M := (fun j => j = g0 ∨ j = g1)) hbh)), ?_⟩
              clear hK
              replace hS0 := Fr.tr hS0 ((Fr.of_below (M := (fun j => j = g0 ∨ j = g1)) hbh))
              simp only [Act.put, List.setIfInBounds_toArray, List.set_cons_succ, List.set_cons_zero]
              refine os_move rfl rfl rfl (Nat.le_of_ble_eq_true rfl) ?_
              apply Exists.intro
              refine ⟨fun w' K hK => ?_, ?_⟩
              (focus
                go_simp
                exact hK)
              refine os_move rfl rfl rfl (Nat.le_of_ble_eq_true rfl) ?_
              apply Exists.intro
              refine ⟨fun w' K hK => ?_, ?_⟩
              (focus
                go_simp
                exact hK)
              refine os_done ⟨rfl, ?_⟩
              go_wp2_with fail
              refine bodyPost_ret (v := .tuple #[.agg (bs pubK).toArray, .agg (bs pubN).toArray, .slice (some ⟨gh, 0, none⟩) 12 12, .slice (some ⟨gt, 0, none⟩) 114 114])
                (results_pub Try.results22 rfl rfl rfl rfl (run_loadVar_mid _ g0 0 23 (bs pubK) _ (range_block P0.out) uK.out rfl i1.out) (run_loadVar_mid _ g1 0 25 (bs pubN) _ (range_block P1.out) uN.out rfl i2.out)) rfl
                ⟨gh, gt, rfl, Sl.of_block B19.out rfl 12 rfl, Sl.of_block F20.out rfl 114 pubT_len, by omega, by omega, ?_⟩
              exact ((Fr.of_below (below_drewN X7.out.bel 1)).trans hS0 (fun i _ h => h)).to_below (fun i hi e => by rcases e with e | e <;> omega)
          · refine wp_store_abs 25 (.tmp 1) (.tmp 18) rfl g1 25 _ (bs pubN).toArray rfl rfl G1.out (by simpa using i2.out) (by simp [bs_length, pubN]) (by simp; exact bs_oneCell _) ?_
            intro wn Hn hgn
            have P1 : Hid (wn.heap[g1]? = some (.cells (bs pubN).toArray 25 (0, 0))) := Hn
            try replace G0 := Lib.hid (heap_gr hgn G0.out (by omega))
            try replace P0 := Lib.hid (heap_gr hgn P0.out (by omega))
            try replace B19 := Lib.hid (heap_gr hgn B19.out (by omega))
            try replace B20 := Lib.hid (heap_gr hgn B20.out (by omega))
            try replace F20 := Lib.hid (heap_gr hgn F20.out (by omega))
            clear Hn G1
            refine hK _ _ ⟨fun _ hk => absurd hk List.not_mem_nil, ?_⟩
            clear hK
            replace hS0 := Fr.tr hS0 (((Fr.of_grown hgn).mono (fun j _ e => .inr (by injection e))))
            simp only [Act.put]
            refine o3_os ?_
            refine os_two rfl rfl rfl rfl (fun K hK => ?_) (fun K hK => ?_)
            · refine wp_buildSlice_bytes 26 5 12 _ iB pubH rfl (by kernel_rfl) rfl (by decide) uS HiB.out HzB.out HsB.out ?_
              intro gh wh Eh Hh hbh
              have B19 : Hid (wh.heap[gh]? = some (.cells (bs pubH).toArray 5 (0, 0))) := Hh
              have e19 : w7.heap.size ≤ gh := by have := Eh.out; have := hS0.size; omega
              try have nht : gh ≠ gt := fun e => by have := (Array.getElem?_eq_some_iff.1 B20.out).1; have := Eh.out; have := hbh.size; omega
              try replace G0 := Lib.hid (heap_bel G0.out hbh)
              try replace G1 := Lib.hid (heap_bel G1.out hbh)
              try replace P0 := Lib.hid (heap_bel P0.out hbh)
              try replace P1 := Lib.hid (heap_bel P1.out hbh)
              try replace F20 := Lib.hid (heap_bel F20.out hbh)
              try replace B20 := Lib.hid (heap_bel B20.out hbh)
              clear Eh Hh
              refine hK _ _ ⟨fun _ _ h => Fr.tr h ((Fr.of_below (M := (fun j => j = g0 ∨ j = g1)) hbh)), ?_⟩
              clear hK
              replace hS0 := Fr.tr hS0 ((Fr.of_below (M := (fun j => j = g0 ∨ j = g1)) hbh))
              simp only [Act.put, List.setIfInBounds_toArray, List.set_cons_succ, List.set_cons_zero]
              refine os_move rfl rfl rfl (Nat.le_of_ble_eq_true rfl) ?_
              apply Exists.intro
              refine ⟨fun w' K hK => ?_, ?_⟩
              (focus
                go_simp
                exact hK)
              refine os_run rfl rfl (fun K hK => ?_)
              refine wp_mark 26 5 (.tmp 20) gt 114 114 (bs pubT).toArray rfl rfl B20.out uS uB ?_
              intro wm Hm hgm
              have F20 : Hid (wm.heap[gt]? = some (.cells (bs pubT).toArray 5 ((bs pubT).toArray.size, (bs pubT).toArray.size + 1))) := Hm
              try replace G0 := Lib.hid (heap_gr hgm G0.out (by omega))
              try replace G1 := Lib.hid (heap_gr hgm G1.out (by omega))
              try replace P0 := Lib.hid (heap_gr hgm P0.out (by omega))
              try replace P1 := Lib.hid (heap_gr hgm P1.out (by omega))
              try replace B19 := Lib.hid (heap_gr hgm B19.out (by omega))
              clear Hm B20
              refine hK _ _ ⟨fun _ _ _ => hS0.trans (Fr.of_grown hgm) (fun i hi e => by injection e with e; omega), ?_⟩
              clear hK
              replace hS0 := hS0.trans (Fr.of_grown hgm) (fun i hi e => by injection e with e; omega)
              simp only [Act.put, List.setIfInBounds_toArray, List.set_cons_succ, List.set_cons_zero]
              refine os_move rfl rfl rfl (Nat.le_of_ble_eq_true rfl) ?_
              apply Exists.intro
              refine ⟨fun w' K hK => ?_, ?_⟩
              (focus
                go_simp
                exact hK)
              refine os_done ⟨rfl, ?_⟩
              go_wp2_with fail
              refine bodyPost_ret (v := .tuple #[.agg (bs pubK).toArray, .agg (bs pubN).toArray, .slice (some ⟨gh, 0, none⟩) 12 12, .slice (some ⟨gt, 0, none⟩) 114 114])
                (results_pub Try.results22 rfl rfl rfl rfl (run_loadVar_mid _ g0 0 23 (bs pubK) _ (range_block P0.out) uK.out rfl i1.out) (run_loadVar_mid _ g1 0 25 (bs pubN) _ (range_block P1.out) uN.out rfl i2.out)) rfl
                ⟨gh, gt, rfl, Sl.of_block B19.out rfl 12 rfl, Sl.of_block F20.out rfl 114 pubT_len, by omega, by omega, ?_⟩
              exact ((Fr.of_below (below_drewN X7.out.bel 1)).trans hS0 (fun i _ h => h)).to_below (fun i hi e => by rcases e with e | e <;> omega)
            · refine wp_mark 26 5 (.tmp 20) gt 114 114 (bs pubT).toArray rfl rfl B20.out uS uB ?_
              intro wm Hm hgm
              have F20 : Hid (wm.heap[gt]? = some (.cells (bs pubT).toArray 5 ((bs pubT).toArray.size, (bs pubT).toArray.size + 1))) := Hm
              try replace G0 := Lib.hid (heap_gr hgm G0.out (by omega))
              try replace G1 := Lib.hid (heap_gr hgm G1.out (by omega))
              try replace P0 := Lib.hid (heap_gr hgm P0.out (by omega))
              try replace P1 := Lib.hid (heap_gr hgm P1.out (by omega))
              try replace B19 := Lib.hid (heap_gr hgm B19.out (by omega))
              clear Hm B20
              refine hK _ _ ⟨fun _ _ _ => hS0.trans (Fr.of_grown hgm) (fun i hi e => by injection e with e; omega), ?_⟩
              clear hK
              replace hS0 := hS0.trans (Fr.of_grown hgm) (fun i hi e => by injection e with e; omega)
              simp only [Act.put, List.setIfInBounds_toArray, List.set_cons_succ, List.set_cons_zero]
              refine os_run rfl rfl (fun K hK => ?_)
              refine wp_buildSlice_bytes 26 5 12 _ iB pubH rfl (by kernel_rfl) rfl (by decide) uS HiB.out HzB.out HsB.out ?_
              intro gh wh Eh Hh hbh
              have B19 : Hid (wh.heap[gh]? = some (.cells (bs pubH).toArray 5 (0, 0))) := Hh
              have e19 : w7.heap.size ≤ gh := by have := Eh.out; have := hS0.size; omega
              try have nht : gh ≠ gt := fun e => by have := (Array.getElem?_eq_some_iff.1 B20.out).1; have := Eh.out; have := hbh.size; omega
              try replace G0 := Lib.hid (heap_bel G0.out hbh)
              try replace G1 := Lib.hid (heap_bel G1.out hbh)
              try replace P0 := Lib.hid (heap_bel P0.out hbh)
              try replace P1 := Lib.hid (heap_bel P1.out hbh)
              try replace F20 := Lib.hid (heap_bel F20.out hbh)
              try replace B20 := Lib.hid (heap_bel B20.out hbh)
              clear Eh Hh
              refine hK _ _ ⟨fun _ _ h => Fr.tr h ((Fr.of_below (M := (fun j => j = g0 ∨ j = g1)) hbh)), ?_⟩
              clear hK
              replace hS0 := Fr.tr hS0 ((Fr.of_below (M := (fun j => j = g0 ∨ j = g1)) hbh))
              simp only [Act.put, List.setIfInBounds_toArray, List.set_cons_succ, List.set_cons_zero]
              refine os_move rfl rfl rfl (Nat.le_of_ble_eq_true rfl) ?_
              apply Exists.intro
              refine ⟨fun w' K hK => ?_, ?_⟩
              (focus
                go_simp
                exact hK)
              refine os_move rfl rfl rfl (Nat.le_of_ble_eq_true rfl) ?_
              apply Exists.intro
              refine ⟨fun w' K hK => ?_, ?_⟩
              (focus
                go_simp
                exact hK)
              refine os_done ⟨rfl, ?_⟩
              go_wp2_with fail
              refine bodyPost_ret (v := .tuple #[.agg (bs pubK).toArray, .agg (bs pubN).toArray, .slice (some ⟨gh, 0, none⟩) 12 12, .slice (some ⟨gt, 0, none⟩) 114 114])
                (results_pub Try.results22 rfl rfl rfl rfl (run_loadVar_mid _ g0 0 23 (bs pubK) _ (range_block P0.out) uK.out rfl i1.out) (run_loadVar_mid _ g1 0 25 (bs pubN) _ (range_block P1.out) uN.out rfl i2.out)) rfl
                ⟨gh, gt, rfl, Sl.of_block B19.out rfl 12 rfl, Sl.of_block F20.out rfl 114 pubT_len, by omega, by omega, ?_⟩
              exact ((Fr.of_below (below_drewN X7.out.bel 1)).trans hS0 (fun i _ h => h)).to_below (fun i hi e => by rcases e with e | e <;> omega)
        · refine wp_store_abs 25 (.tmp 1) (.tmp 18) rfl g1 25 _ (bs pubN).toArray rfl rfl G1.out (by simpa using i2.out) (by simp [bs_length, pubN]) (by simp; exact bs_oneCell _) ?_
          intro wn Hn hgn
          have P1 : Hid (wn.heap[g1]? = some (.cells (bs pubN).toArray 25 (0, 0))) := Hn
          try replace G0 := Lib.hid (heap_gr hgn G0.out (by omega))
          try replace P0 := Lib.hid (heap_gr hgn P0.out (by omega))
          try replace B19 := Lib.hid (heap_gr hgn B19.out (by omega))
          try replace B20 := Lib.hid (heap_gr hgn B20.out (by omega))
          try replace F20 := Lib.hid (heap_gr hgn F20.out (by omega))
          clear Hn G1
          refine hK _ _ ⟨fun _ hk => absurd hk List.not_mem_nil, ?_⟩
          clear hK
          replace hS0 := Fr.tr hS0 (((Fr.of_grown hgn).mono (fun j _ e => .inr (by injection e))))
          simp only [Act.put]
          refine o3_os ?_
          refine os_two rfl rfl rfl rfl (fun K hK => ?_) (fun K hK => ?_)
          · refine wp_buildSlice_bytes 26 5 12 _ iB pubH rfl (by kernel_rfl) rfl (by decide) uS HiB.out HzB.out HsB.out ?_
            intro gh wh Eh Hh hbh
            have B19 : Hid (wh.heap[gh]? = some (.cells (bs pubH).toArray 5 (0, 0))) := Hh
            have e19 : w7.heap.size ≤ gh := by have := Eh.out; have := hS0.size; omega
            try have nht : gh ≠ gt := fun e => by have := (Array.getElem?_eq_some_iff.1 B20.out).1; have := Eh.out; have := hbh.size; omega
            try replace G0 := Lib.hid (heap_bel G0.out hbh)
            try replace G1 := Lib.hid (heap_bel G1.out hbh)
            try replace P0 := Lib.hid (heap_bel P0.out hbh)
            try replace P1 := Lib.hid (heap_bel P1.out hbh)
            try replace F20 := Lib.hid (heap_bel F20.out hbh)
            try replace B20 := Lib.hid (heap_bel B20.out hbh)
            clear Eh Hh
            refine hK _ _ ⟨fun _ _ h => Fr.tr h ((Fr.of_below (M := (fun j => j = g0 ∨ j = g1)) hbh)), ?_⟩
            clear hK
            replace hS0 := Fr.tr hS0 ((Fr.of_below (M := (fun j => j = g0 ∨ j = g1)) hbh))
            simp only [Act.put, List.setIfInBounds_toArray, List.set_cons_succ, List.set_cons_zero]
            refine os_move rfl rfl rfl (Nat.le_of_ble_eq_true rfl) ?_
            apply Exists.intro
            refine ⟨fun w' K hK => ?_, ?_⟩
            (focus
              go_simp
              exact hK)
            refine os_run rfl rfl (fun K hK => ?_)
            refine wp_buildSlice_bytes 26 5 114 PP iB pubT rfl (hpp _) pubT_len ⟨by omega, by omega⟩ uS HiB.out HzB.out HsB.out ?_
            intro gt wt Et Ht hbt
            have B20 : Hid (wt.heap[gt]? = some (.cells (bs pubT).toArray 5 (0, 0))) := Ht
            have e20 : w7.heap.size ≤ gt := by have := Et.out; have := hS0.size; omega
            try have nht : gh ≠ gt := fun e => by have := (Array.getElem?_eq_some_iff.1 B19.out).1; have := Et.out; have := hbt.size; omega
            try replace G0 := Lib.hid (heap_bel G0.out hbt)
            try replace G1 := Lib.hid (heap_bel G1.out hbt)
            try replace P0 := Lib.hid (heap_bel P0.out hbt)
            try replace P1 := Lib.hid (heap_bel P1.out hbt)
            try replace B19 := Lib.hid (heap_bel B19.out hbt)
            clear Et Ht
            refine hK _ _ ⟨fun _ _ h => Fr.tr h ((Fr.of_below (M := (fun j => j = g0 ∨ j = g1)) hbt)), ?_⟩
            clear hK
            replace hS0 := Fr.tr hS0 ((Fr.of_below (M := (fun j => j = g0 ∨ j = g1)) hbt))
            simp only [Act.put, List.setIfInBounds_toArray, List.set_cons_succ, List.set_cons_zero]
            refine os_run rfl rfl (fun K hK => ?_)
            refine wp_mark 26 5 (.tmp 20) gt 114 114 (bs pubT).toArray rfl rfl B20.out uS uB ?_
            intro wm Hm hgm
            have F20 : Hid (wm.heap[gt]? = some (.cells (bs pubT).toArray 5 ((bs pubT).toArray.size, (bs pubT).toArray.size + 1))) := Hm
            try replace G0 := Lib.hid (heap_gr hgm G0.out (by omega))
            try replace G1 := Lib.hid (heap_gr hgm G1.out (by omega))
            try replace P0 := Lib.hid (heap_gr hgm P0.out (by omega))
            try replace P1 := Lib.hid (heap_gr hgm P1.out (by omega))
            try replace B19 := Lib.hid (heap_gr hgm B19.out (by omega))
            clear Hm B20
            refine hK _ _ ⟨fun _ _ _ => hS0.trans (Fr.of_grown hgm) (fun i hi e => by injection e with e; omega), ?_⟩
            clear hK
            replace hS0 := hS0.trans (Fr.of_grown hgm) (fun i hi e => by injection e with e; omega)
            simp only [Act.put, List.setIfInBounds_toArray, List.set_cons_succ, List.set_cons_zero]
            refine os_move rfl rfl rfl (Nat.le_of_ble_eq_true rfl) ?_
            apply Exists.intro
            refine ⟨fun w' K hK => ?_, ?_⟩
            (focus
              go_simp
              exact hK)
            refine os_done ⟨rfl, ?_⟩
            go_wp2_with fail
            refine bodyPost_ret (v := .tuple #[.agg (bs pubK).toArray, .agg (bs pubN).toArray, .slice (some ⟨gh, 0, none⟩) 12 12, .slice (some ⟨gt, 0, none⟩) 114 114])
              (results_pub Try.results22 rfl rfl rfl rfl (run_loadVar_mid _ g0 0 23 (bs pubK) _ (range_block P0.out) uK.out rfl i1.out) (run_loadVar_mid _ g1 0 25 (bs pubN) _ (range_block P1.out) uN.out rfl i2.out)) rfl
              ⟨gh, gt, rfl, Sl.of_block B19.out rfl 12 rfl, Sl.of_block F20.out rfl 114 pubT_len, by omega, by omega, ?_⟩
            exact ((Fr.of_below (below_drewN X7.out.bel 1)).trans hS0 (fun i _ h => h)).to_below (fun i hi e => by rcases e with e | e <;> omega)
          · refine wp_buildSlice_bytes 26 5 114 PP iB pubT rfl (hpp _) pubT_len ⟨by omega, by omega⟩ uS HiB.out HzB.out HsB.out ?_
            intro gt wt Et Ht hbt
            have B20 : Hid (wt.heap[gt]? = some (.cells (bs pubT).toArray 5 (0, 0))) := Ht
            have e20 : w7.heap.size ≤ gt := by have := Et.out; have := hS0.size; omega
            try have nht : gh ≠ gt := fun e => by have := (Array.getElem?_eq_some_iff.1 B19.out).1; have := Et.out; have := hbt.size; omega
            try replace G0 := Lib.hid (heap_bel G0.out hbt)
            try replace G1 := Lib.hid (heap_bel G1.out hbt)
            try replace P0 := Lib.hid (heap_bel P0.out hbt)
            try replace P1 := Lib.hid (heap_bel P1.out hbt)
            try replace B19 := Lib.hid (heap_bel B19.out hbt)
            clear Et Ht
            refine hK _ _ ⟨fun _ _ h => Fr.tr h ((Fr.of_below (M := (fun j => j = g0 ∨ j = g1)) hbt)), ?_⟩
            clear hK
            replace hS0 := Fr.tr hS0 ((Fr.of_below (M := (fun j => j = g0 ∨ j = g1)) hbt))
            simp only [Act.put, List.setIfInBounds_toArray, List.set_cons_succ, List.set_cons_zero]
            refine os_two rfl rfl rfl rfl (fun K hK => ?_) (fun K hK => ?_)
            · refine wp_buildSlice_bytes 26 5 12 _ iB pubH rfl (by kernel_rfl) rfl (by decide) uS HiB.out HzB.out HsB.out ?_
              intro gh wh Eh Hh hbh
              have B19 : Hid (wh.heap[gh]? = some (.cells (bs pubH).toArray 5 (0, 0))) := Hh
              have e19 : w7.heap.size ≤ gh := by have := Eh.out; have := hS0.size; omega
              try have nht : gh ≠ gt := fun e => by have := (Array.getElem?_eq_some_iff.1 B20.out).1; have := Eh.out; have := hbh.size; omega
              try replace G0 := Lib.hid (heap_bel G0.out hbh)
              try replace G1 := Lib.hid (heap_bel G1.out hbh)
              try replace P0 := Lib.hid (heap_bel P0.out hbh)
              try replace P1 := Lib.hid (heap_bel P1.out hbh)
              try replace F20 := Lib.hid (heap_bel F20.out hbh)
              try replace B20 := Lib.hid (heap_bel B20.out hbh)
              clear Eh Hh
              refine hK _ _ ⟨fun _ _ h => Fr.tr h ((Fr.of_below (M := (fun j => j = g0 ∨ j = g1)) hbh)), ?_⟩
              clear hK
              replace hS0 := Fr.tr hS0 ((Fr.of_below (M := (fun j => j = g0 ∨ j = g1)) hbh))
              simp only [Act.put, List.setIfInBounds_toArray, List.set_cons_succ, List.set_cons_zero]
              refine os_move rfl rfl rfl (Nat.le_of_ble_eq_true rfl) ?_
              apply Exists.intro
              refine ⟨fun w' K hK => ?_, ?_⟩
              (focus
                go_simp
                exact hK)
              refine os_run rfl rfl (fun K hK => ?_)
              refine wp_mark 26 5 (.tmp 20) gt 114 114 (bs pubT).toArray rfl rfl B20.out uS uB ?_
              intro wm Hm hgm
              have F20 : Hid (wm.heap[gt]? = some (.cells (bs pubT).toArray 5 ((bs pubT).toArray.size, (bs pubT).toArray.size + 1))) := Hm
              try replace G0 := Lib.hid (heap_gr hgm G0.out (by omega))
              try replace G1 := Lib.hid (heap_gr hgm G1.out (by omega))
              try replace P0 := Lib.hid (heap_gr hgm P0.out (by omega))
              try replace P1 := Lib.hid (heap_gr hgm P1.out (by omega))
              try replace B19 := Lib.hid (heap_gr hgm B19.out (by omega))
              clear Hm B20
              refine hK _ _ ⟨fun _ _ _ => hS0.trans (Fr.of_grown hgm) (fun i hi e => by injection e with e; omega), ?_⟩
              clear hK
              replace hS0 := hS0.trans (Fr.of_grown hgm) (fun i hi e => by injection e with e; omega)
              simp only [Act.put, List.setIfInBounds_toArray, List.set_cons_succ, List.set_cons_zero]
              refine os_move rfl rfl rfl (Nat.le_of_ble_eq_true rfl) ?_
              apply Exists.intro
              refine ⟨fun w' K hK => ?_, ?_⟩
              (focus
                go_simp
                exact hK)
              refine os_done ⟨rfl, ?_⟩
              go_wp2_with fail
              refine bodyPost_ret (v := .tuple #[.agg (bs pubK).toArray, .agg (bs pubN).toArray, .slice (some ⟨gh, 0, none⟩) 12 12, .slice (some ⟨gt, 0, none⟩) 114 114])
                (results_pub Try.results22 rfl rfl rfl rfl (run_loadVar_mid _ g0 0 23 (bs pubK) _ (range_block P0.out) uK.out rfl i1.out) (run_loadVar_mid _ g1 0 25 (bs pubN) _ (range_block P1.out) uN.out rfl i2.out)) rfl
                ⟨gh, gt, rfl, Sl.of_block B19.out rfl 12 rfl, Sl.of_block F20.out rfl 114 pubT_len, by omega, by omega, ?_⟩
              exact ((Fr.of_below (below_drewN X7.out.bel 1)).trans hS0 (fun i _ h => h)).to_below (fun i hi e => by rcases e with e | e <;> omega)
            · refine wp_mark 26 5 (.tmp 20) gt 114 114 (bs pubT).toArray rfl rfl B20.out uS uB ?_
              intro wm Hm hgm
              have F20 : Hid (wm.heap[gt]? = some (.cells (bs pubT).toArray 5 ((bs pubT).toArray.size, (bs pubT).toArray.size + 1))) := Hm
              try replace G0 := Lib.hid (heap_gr hgm G0.out (by omega))
              try replace G1 := Lib.hid (heap_gr hgm G1.out (by omega))
              try replace P0 := Lib.hid (heap_gr hgm P0.out (by omega))
              try replace P1 := Lib.hid (heap_gr hgm P1.out (by omega))
              try replace B19 := Lib.hid (heap_gr hgm B19.out (by omega))
              clear Hm B20
              refine hK _ _ ⟨fun _ _ _ => hS0.trans (Fr.of_grown hgm) (fun i hi e => by injection e with e; omega), ?_⟩
              clear hK
              replace hS0 := hS0.trans (Fr.of_grown hgm) (fun i hi e => by injection e with e; omega)
              simp only [Act.put, List.setIfInBounds_toArray, List.set_cons_succ, List.set_cons_zero]
              refine os_run rfl rfl (fun K hK => ?_)
              refine wp_buildSlice_bytes 26 5 12 _ iB pubH rfl (by kernel_rfl) rfl (by decide) uS HiB.out HzB.out HsB.out ?_
              intro gh wh Eh Hh hbh
              have B19 : Hid (wh.heap[gh]? = some (.cells (bs pubH).toArray 5 (0, 0))) := Hh
              have e19 : w7.heap.size ≤ gh := by have := Eh.out; have := hS0.size; omega
              try have nht : gh ≠ gt := fun e => by have := (Array.getElem?_eq_some_iff.1 B20.out).1; have := Eh.out; have := hbh.size; omega
              try replace G0 := Lib.hid (heap_bel G0.out hbh)
              try replace G1 := Lib.hid (heap_bel G1.out hbh)
              try replace P0 := Lib.hid (heap_bel P0.out hbh)
              try replace P1 := Lib.hid (heap_bel P1.out hbh)
              try replace F20 := Lib.hid (heap_bel F20.out hbh)
              try replace B20 := Lib.hid (heap_bel B20.out hbh)
              clear Eh Hh
              refine hK _ _ ⟨fun _ _ h => Fr.tr h ((Fr.of_below (M := (fun j => j = g0 ∨ j = g1)) hbh)), ?_⟩
              clear hK
              replace hS0 := Fr.tr hS0 ((Fr.of_below (M := (fun j => j = g0 ∨ j = g1)) hbh))
              simp only [Act.put, List.setIfInBounds_toArray, List.set_cons_succ, List.set_cons_zero]
              refine os_move rfl rfl rfl (Nat.le_of_ble_eq_true rfl) ?_
              apply Exists.intro
              refine ⟨fun w' K hK => ?_, ?_⟩
              (focus
                go_simp
                exact hK)
              refine os_move rfl rfl rfl (Nat.le_of_ble_eq_true rfl) ?_
              apply Exists.intro
              refine ⟨fun w' K hK => ?_, ?_⟩
              (focus
                go_simp
                exact hK)
              refine os_done ⟨rfl, ?_⟩
              go_wp2_with fail
              refine bodyPost_ret (v := .tuple #[.agg (bs pubK).toArray, .agg (bs pubN).toArray, .slice (some ⟨gh, 0, none⟩) 12 12, .slice (some ⟨gt, 0, none⟩) 114 114])
                (results_pub Try.results22 rfl rfl rfl rfl (run_loadVar_mid _ g0 0 23 (bs pubK) _ (range_block P0.out) uK.out rfl i1.out) (run_loadVar_mid _ g1 0 25 (bs pubN) _ (range_block P1.out) uN.out rfl i2.out)) rfl
                ⟨gh, gt, rfl, Sl.of_block B19.out rfl 12 rfl, Sl.of_block F20.out rfl 114 pubT_len, by omega, by omega, ?_⟩
              exact ((Fr.of_below (below_drewN X7.out.bel 1)).trans hS0 (fun i _ h => h)).to_below (fun i hi e => by rcases e with e | e <;> omega)
end Go.Proofs.Ytklclbppdoahjaa
