/- Lemmas and contracts for the claim's row, one text behind the other: Ae7, Ae8, Ae9, Ae10, Ae11, Ae20, Ae22, KRow. No condition. -/
import Derived.Test.YtklclbppdoahjaaJ3
/- Aead: published. -/
namespace Go.Proofs.Ytklclbppdoahjaa
set_option maxRecDepth 100000
open Go.RowKit
attribute [local go_sem] yld yldUpon_value

theorem fillSeq_bytes : ∀ (L : List UInt8) (k : Nat), FillSeq (fun k => some (k * 1, 1)) ((L.zipIdx k).map fun x => (x.2, bv x.1)) k
  | [], _ => trivial
  | b :: L, k => ⟨by simp [Value.cells, bv], fillSeq_bytes L (k + 1)⟩
theorem partCells_bytes : ∀ (L : List UInt8) (k : Nat), partCells ((L.zipIdx k).map fun x => (x.2, bv x.1)) = bs L
  | [], _ => rfl
  | b :: L, k => by
    have ih := partCells_bytes L (k + 1)
    simp only [partCells, List.zipIdx_cons, List.map_cons, List.flatMap_cons] at ih ⊢
    rw [ih]
    rfl
theorem run_buildSlice_bytes {P : Program} (w : World) (t e : TypeId) (i : TypeInfo) (L : List UInt8) (n : Nat) (hn : L.length = n) (hn1 : 0 < n ∧ n ≤ 16777216) (ht : P.underlying t = some (.slice e)) (hi : P.info? e = some i) (hz : i.zero = some (.int .u8 0)) (hs : i.size = 1) :
    (Instr.buildSlice t n ((L.zipIdx 0).map fun x => (x.2, bv x.1)).toArray).run P w = .ok (.slice (some ⟨w.heap.size, 0, none⟩) n n) (w.alloc (.cells (bs L).toArray e)) := by
  have hf := fill_seq (fun k => some (k * 1, 1)) ((L.zipIdx 0).map fun x => (x.2, bv x.1)) [] ((Array.range n).map (fun _ => (Value.int .u8 0))).toList
    (fillSeq_bytes L 0) (by rw [partCells_bytes, bs_length]; simp [hn])
  simp only [List.nil_append, Array.toArray_toList, partCells_bytes] at hf
  unfold Instr.buildSlice
  simp [run_underlying ht, sizeOf, typeInfo, hi, zeroValue, hz, hs, Value.cells, show ¬ 16777216 < n by omega, show ¬ n = 0 by omega, Nat.mod_one, newRow]
  simp at hf
  simp [hf]
theorem wp_buildSlice_bytes {P : Program} {o : Oper} {a : Act} {w : World} {K : Act → World → Prop} {Q : Exit → Act → World → Prop} (t e : TypeId) (n : Nat) (parts : List (Nat × Operand)) (i : TypeInfo) (L : List UInt8) (ho : o.op = .buildSlice t n parts.toArray)
    (hp : (parts.map fun (x : Nat × Operand) => (x.1, a.eval x.2)) = (L.zipIdx 0).map fun x => (x.2, bv x.1)) (hn : L.length = n) (hn1 : 0 < n ∧ n ≤ 16777216) (ht : P.underlying t = some (.slice e)) (hi : P.info? e = some i) (hz : i.zero = some (.int .u8 0)) (hs : i.size = 1)
    (h : ∀ g w', Hid (g = w.heap.size) → Hid (w'.heap[g]? = some (.cells (bs L).toArray e (0, 0))) → Below w.heap.size w w' → K (a.put o.dst (.slice (some ⟨g, 0, none⟩) n n)) w') : o.wp P a w K Q := by
  have hrun := run_buildSlice_bytes (P := P) w t e i L n hn hn1 ht hi hz hs
  unfold Oper.wp execOp
  simp only [ho, List.map_toArray, hp, Sem.run_bind, hrun, Result.andThen_ok, Sem.run_pure]
  exact h _ _ (Lib.hid rfl) (Lib.hid (heap_alloc_new w _)) (Below.al _ _)
theorem lst_buildSlice_bytes {P : Program} {ops : Array Oper} {rest : List Oper} {o : Oper} {a : Act} {w : World} {Q : Exit → Act → World → Prop} (t e : TypeId) (n : Nat) (parts : List (Nat × Operand)) (i : TypeInfo) (L : List UInt8) (ho : o.op = .buildSlice t n parts.toArray)
    (hp : (parts.map fun (x : Nat × Operand) => (x.1, a.eval x.2)) = (L.zipIdx 0).map fun x => (x.2, bv x.1)) (hn : L.length = n) (hn1 : 0 < n ∧ n ≤ 16777216) (ht : P.underlying t = some (.slice e)) (hi : P.info? e = some i) (hz : i.zero = some (.int .u8 0)) (hs : i.size = 1) (hw : Region.wanted o (yielded ops a.tmps) = true)
    (h : ∀ g w', Hid (g = w.heap.size) → Hid (w'.heap[g]? = some (.cells (bs L).toArray e (0, 0))) → Below w.heap.size w w' → wpList P ops Q rest (a.put o.dst (.slice (some ⟨g, 0, none⟩) n n)) w') : wpList P ops Q (o :: rest) a w :=
  BigFrame.wpList_want hw fun _ hK => wp_buildSlice_bytes t e n parts i L ho hp hn hn1 ht hi hz hs fun g w' h1 h2 h3 => hK _ _ (h g w' h1 h2 h3)
/-- a constant's bytes are marked -/
theorem wp_mark {P : Program} {o : Oper} {a : Act} {w : World} {K : Act → World → Prop} {Q : Exit → Act → World → Prop} (t e : TypeId) (x : Operand) (g n c : Nat) (C : Array Value) (ho : o.op = .convert t t x) (hx : a.eval x = .slice (some ⟨g, 0, none⟩) n c)
    (hg : w.heap[g]? = some (.cells C e (0, 0))) (ht : P.underlying t = some (.slice e)) (he : P.underlying e = some (.int .u8))
    (h : ∀ w', Hid (w'.heap[g]? = some (.cells C e (C.size, C.size + 1))) → w.grownBy w' (some g) → K (a.put o.dst (.slice (some ⟨g, 0, none⟩) n c)) w') : o.wp P a w K Q := by
  have hsh : w.shape? g = some (e, C.size) := by unfold World.shape?; rw [hg]
  have hrun : (convert t t (.slice (some ⟨g, 0, none⟩) n c)).run P w = .ok (.slice (some ⟨g, 0, none⟩) n c) (w.freeze ⟨g, C.size, none⟩ 1) := by
    simp [convert, run_underlying ht, run_underlying he, markStringish, hsh]
  have h1 : (w.freeze ⟨g, C.size, none⟩ 1).heap[g]? = some (.cells C e (C.size, C.size + 1)) := by
    unfold World.freeze
    rw [if_neg (by decide)]
    simp [Array.getElem?_modify, hg]
  have h2 : w.grownBy (w.freeze ⟨g, C.size, none⟩ 1) (some g) := by
    unfold World.freeze
    rw [if_neg (by decide)]
    refine ⟨rfl, rfl, rfl, by simp, fun k _ hk => ?_⟩
    simp [Array.getElem?_modify, show ¬ g = k from fun e => hk (by rw [e])]
  unfold Oper.wp execOp
  simp only [ho, hx, Sem.run_bind, hrun, Result.andThen_ok, Sem.run_pure]
  exact h _ (Lib.hid h1) h2
theorem results_pub {P : Program} {fn : Func} {tmps : Array Value} {w : World} {k T g k2 T2 g2 x y : Nat} {v v2 u u2 : Value} (hf : fn.results = #[.cell k T, .cell k2 T2, .tmp x, .tmp y]) (h0 : tmps.getD k undef = .pointer (some ⟨g, 0, none⟩)) (h1 : tmps.getD k2 undef = .pointer (some ⟨g2, 0, none⟩))
    (h2 : tmps.getD x undef = u) (h3 : tmps.getD y undef = u2) (hl : (loadVar T ⟨g, 0, none⟩).run P w = .ok v w) (hl2 : (loadVar T2 ⟨g2, 0, none⟩).run P w = .ok v2 w) : (results fn tmps).run P w = .ok (.tuple #[v, v2, u, u2]) w := by
  unfold results
  rw [hf]
  simp only [Array.getD_eq_getD_getElem?] at h0 h1 h2 h3
  simp [h0, h1, h2, h3, asAddr, hl, hl2]

def pubK : List UInt8 := (List.range 32).map fun i => UInt8.ofNat (128 + i)
def pubN : List UInt8 := [7, 0, 0, 0, 64, 65, 66, 67, 68, 69, 70, 71]
def pubH : List UInt8 := [80, 81, 82, 83, 192, 193, 194, 195, 196, 197, 198, 199]
def pubT : List UInt8 := [76,97,100,105,101,115,32,97,110,100,32,71,101,110,116,108,101,109,101,110,32,111,102,32,116,104,101,32,99,108,97,115,115,32,111,102,32,39,57,57,58,32,73,102,32,73,32,99,111,117,108,100,32,111,102,102,101,114,32,121,111,117,32,111,110,108,121,32,111,110,101,32,116,105,112,32,102,111,114,32,116,104,101,32,102,117,116,117,114,101,44,32,115,117,110,115,99,114,101,101,110,32,119,111,117,108,100,32,98,101,32,105,116,46]
theorem pubT_len : pubT.length = 114 := by kernel_rfl
theorem pubK_len : pubK.length = 32 := by simp [pubK]
theorem step_set {L : List UInt8} {n k : Nat} (hL : L.length = n) (hk : k < n) {z : UInt8} (hz : z = L.getD k 0) :
    (bs (L.take k ++ List.replicate (n - k) 0)).toArray.setIfInBounds k (.int .u8 (z.toNat : Int)) = (bs (L.take (k + 1) ++ List.replicate (n - (k + 1)) 0)).toArray := by
  rw [List.setIfInBounds_toArray]
  show ((bs _).set k (bv z)).toArray = _
  rw [bs_set, List.set_append_right _ _ (by rw [List.length_take]; omega), List.length_take, show k - min k L.length = 0 by omega, show n - k = (n - (k + 1)) + 1 by omega, List.replicate_succ, List.set_cons_zero,
    List.take_succ_eq_append_getElem (by omega), hz, getD_eq (by omega), List.append_assoc]
  rfl
theorem Has.setc {w wr : World} {L M : List (Nat × Obj)} {g i : Nat} {cs : Array Value} {t : TypeId} (h : Has w wr (L ++ (g, .cells cs t (0, 0)) :: M)) (v : Value) : Has w (wr.setCell ⟨g, i, none⟩ v) (L ++ (g, .cells (cs.setIfInBounds i v) t (0, 0)) :: M) :=
  h.wr ⟨rfl, rfl, rfl, by simp [World.setCell], fun k _ hk => (Below.heap_setCell _ _ _ _ (show k ≠ g from fun e => hk (by rw [e])))⟩ (heap_setCell_same wr g i cs t v (h.get (by simp)))

theorem heap_gr {w w' : World} {g j : Nat} {o : Obj} (hg : w.grownBy w' (some g)) (h : w.heap[j]? = some o) (hne : j ≠ g) : w'.heap[j]? = some o :=
  (hg.block j (Array.getElem?_eq_some_iff.1 h).1 (fun e => hne (by injection e))).trans h
set_option maxHeartbeats 8000000 in
theorem published_any (w : World) :
    Calls Try.prog 22 #[] w fun e w' => ∃ g1 g2, e = .returned (.tuple #[.agg (bs pubK).toArray, .agg (bs pubN).toArray, .slice (some ⟨g1, 0, none⟩) 12 12, .slice (some ⟨g2, 0, none⟩) 114 114]) ∧
      Sl w' (fun k => k = g1) (some ⟨g1, 0, none⟩) 12 12 pubH ∧ Sl w' (fun k => k = g2) (some ⟨g2, 0, none⟩) 114 114 pubT ∧ w.heap.size ≤ g1 ∧ w.heap.size ≤ g2 ∧ Below w.heap.size w w' := by
  obtain ⟨iK, hiK, zK, _, _⟩ := info_parts Try.infoK
  have HiK := Lib.hid hiK; have HzK := Lib.hid zK
  have infoN : (Try.prog.info? 25).map (fun i => (i.zero, i.size, i.bytes)) = some (some (.agg (bs (List.replicate 12 0)).toArray), 12, 12) := by kernel_rfl
  obtain ⟨iN, hiN, zN, _, _⟩ := info_parts infoN
  have HiN := Lib.hid hiN; have HzN := Lib.hid zN
  obtain ⟨iB, hiB, zB, sB, _⟩ := info_parts Try.infoB
  have HiB := Lib.hid hiB; have HzB := Lib.hid zB; have HsB := Lib.hid sB
  clear hiK zK hiN zN infoN hiB zB sB
  have uK := Lib.hid Try.underlying23
  have uN := Lib.hid Try.underlying25
  have i1 : Hid ((Try.prog.info? 23).map (·.size) = some (bs pubK).length) := by rw [bs_length, pubK_len]; exact Try.sizeKey
  have i2 : Hid ((Try.prog.info? 25).map (·.size) = some (bs pubN).length) := by rw [bs_length]; exact Try.sizeN
  have hbN : (Instr.build 25 #[(0, .int .u8 7), (1, .int .u8 0), (2, .int .u8 0), (3, .int .u8 0), (4, .int .u8 64), (5, .int .u8 65), (6, .int .u8 66), (7, .int .u8 67), (8, .int .u8 68), (9, .int .u8 69), (10, .int .u8 70), (11, .int .u8 71)]).run Try.prog = fun w => .ok (.agg (bs pubN).toArray) w := by kernel_rfl
  have HbN : Hid (∀ w, (Instr.build 25 #[(0, .int .u8 7), (1, .int .u8 0), (2, .int .u8 0), (3, .int .u8 0), (4, .int .u8 64), (5, .int .u8 65), (6, .int .u8 66), (7, .int .u8 67), (8, .int .u8 68), (9, .int .u8 69), (10, .int .u8 70), (11, .int .u8 71)]).run Try.prog w = .ok (.agg (bs pubN).toArray) w) := fun w => congrFun hbN w
  clear hbN
  have X : Hid (Has w w []) := Has.start (Below.refl _ w)
  go_enter Try.func22, Try.ntmps22
  go_wp2_with (first
    | ((with_reducible refine lst_alloc_d 0 rfl 23 rfl iK _ HiK.out HzK.out ?_ ?_)
       (focus rfl)
       intro g0 w0 Hg Hh hb
       have X0 := Lib.hid (X.out.new hb (Nat.le_of_eq Hg.out.1.symm) Hh.out)
       clear Hg Hh hb X)
    | ((with_reducible refine lst_alloc_d 1 rfl 25 rfl iN _ HiN.out HzN.out ?_ ?_)
       (focus rfl)
       intro g1 w1 Hg Hh hb
       have X1 := Lib.hid (X0.out.new hb (Nat.le_of_eq Hg.out.1.symm) Hh.out)
       clear Hg Hh hb X0)
    | ((with_reducible refine lst_alloc_d 4 rfl 23 rfl iK _ HiK.out HzK.out ?_ ?_)
       (focus rfl)
       intro g4 w4 Hg Hh hb
       have X4 : Hid (Has w w4 [(g4, .cells (bs (List.replicate 32 0)).toArray 23 (0, 0)), (g1, .cells (bs (List.replicate 12 0)).toArray 25 (0, 0)), (g0, .cells (bs (List.replicate 32 0)).toArray 23 (0, 0))]) := X1.out.new hb (Nat.le_of_eq Hg.out.1.symm) Hh.out
       clear Hg Hh hb X1))
  go_loopw [5] (fun v wr => ∃ k : Nat, k ≤ 32 ∧ v = .int .i64 (k : Nat) ∧ Hid (Has w wr [(g4, .cells (bs (pubK.take k ++ List.replicate (32 - k) 0)).toArray 23 (0, 0)), (g1, .cells (bs (List.replicate 12 0)).toArray 25 (0, 0)), (g0, .cells (bs (List.replicate 32 0)).toArray 23 (0, 0))])) (fun v _ => 32 - (intOf v).toNat)
  case atStart => exact ⟨0, Nat.zero_le _, rfl, X4.out⟩
  case round =>
    obtain ⟨k, hk, rfl, HX⟩ := hrel
    clear X4
    by_cases hlt : k < 32
    · have hlI : (k : Int) < 32 := by omega
      have hkI : (0 : Int) ≤ (k : Int) := by omega
      obtain ⟨z, hz⟩ : ∃ z, z = pubK.getD k 0 := ⟨_, rfl⟩
      have hst := Lib.hid (step_set pubK_len hlt hz)
      have hcv : (128 : Int) + (k : Int) = (z.toNat : Int) := by
        rw [hz, getD_eq (by rw [pubK_len]; exact hlt)]
        simp [pubK]; omega
      have hblk := HX.out.get (g := g4) (o := .cells (bs (pubK.take k ++ List.replicate (32 - k) 0)).toArray 23 (0, 0)) (by simp)
      have hfz := frozen_of_row wr g4 k _ _ hblk
      have hcell : ∃ u, wr.cell? ⟨g4, k, none⟩ = some u := by
        rw [cell_of_row wr g4 k _ _ _ hblk, List.getElem?_toArray]
        exact ⟨_, List.getElem?_eq_getElem (by rw [bs_length, List.length_append, List.length_take, List.length_replicate, pubK_len]; omega)⟩
      obtain ⟨u, hcell⟩ := hcell
      clear hz hblk
      go_wp2_with fail
      have HX2 := Lib.hid (Has.setc (L := []) (i := k) HX.out (.int .u8 (z.toNat : Int)))
      rw [hst.out, List.nil_append] at HX2
      go_roundw
      case rel => exact ⟨k + 1, by omega, by go_num, HX2.out⟩
      case measure => simp [intOf]; omega
    · have hk32 : k = 32 := by omega
      subst hk32
      have e32 : pubK.take 32 ++ List.replicate (32 - 32) 0 = pubK := by rw [List.take_of_length_le (by rw [pubK_len]; exact Nat.le_refl _)]; simp
      rw [e32] at HX
      clear hlt hk e32
      go_wp2_with (first
        | ((with_reducible refine lst_build 25 _ _ _ rfl (HbN.out _) ?_ ?_ ?_)
           (focus rfl)
           (focus rfl))
        | ((with_reducible refine lst_alloc_d 6 rfl 25 rfl iN _ HiN.out HzN.out ?_ ?_)
           (focus rfl)
           intro g6 w6 Hg Hh hb
           have X6 := Lib.hid (HX.out.new hb (Nat.le_of_eq Hg.out.1.symm) Hh.out)
           have h66 : Hid (w6.heap[g6]? = some (.cells (bs (List.replicate 12 0)).toArray 25 (0, 0))) := Hh
           clear Hg Hh hb)
        | ((with_reducible refine lst_store_abs 25 (.tmp 6) (.tmp 16) rfl g6 25 (bs (List.replicate 12 0)).toArray (bs pubN).toArray rfl rfl h66.out (by simpa using i2.out) (by simp [bs_length, pubN]) (by simp; exact bs_oneCell _) ?_ ?_)
           (focus rfl)
           intro w7 Hh7 hg7
           have X7 : Hid (Has w w7 [(g6, .cells (bs pubN).toArray 25 (0, 0)), (g4, .cells (bs pubK).toArray 23 (0, 0)), (g1, .cells (bs (List.replicate 12 0)).toArray 25 (0, 0)), (g0, .cells (bs (List.replicate 32 0)).toArray 23 (0, 0))]) := Has.wr (L := []) X6.out hg7 Hh7.out
           clear Hh7 hg7 X6 h66))
      clear HX
      have hne := X7.out.nd
      simp only [List.pairwise_cons, List.mem_cons, List.not_mem_nil, or_false, forall_eq_or_imp, forall_eq] at hne
      have n60 : g6 ≠ g0 := hne.1.2.2
      have n61 : g6 ≠ g1 := hne.1.2.1
      have n40 : g4 ≠ g0 := hne.2.1.2
      have n41 : g4 ≠ g1 := hne.2.1.1
      have n10 : g1 ≠ g0 := hne.2.2.1
      have l6 := X7.out.lt (g := g6) (o := .cells (bs pubN).toArray 25 (0, 0)) (by simp)
      have l4 := X7.out.lt (g := g4) (o := .cells (bs pubK).toArray 23 (0, 0)) (by simp)
      have l1 := X7.out.lt (g := g1) (o := .cells (bs (List.replicate 12 0)).toArray 25 (0, 0)) (by simp)
      have l0 := X7.out.lt (g := g0) (o := .cells (bs (List.replicate 32 0)).toArray 23 (0, 0)) (by simp)
      have b1 := X7.out.ge (g := g1) (o := .cells (bs (List.replicate 12 0)).toArray 25 (0, 0)) (by simp)
      have b0 := X7.out.ge (g := g0) (o := .cells (bs (List.replicate 32 0)).toArray 23 (0, 0)) (by simp)
      have r4 : Hid (w7.rangeAt g4 0 (bs pubK)) := range_block (X7.out.get (by simp) : w7.heap[g4]? = some (.cells (bs pubK).toArray 23 (0, 0)))
      have r6 : Hid (w7.rangeAt g6 0 (bs pubN)) := range_block (X7.out.get (by simp) : w7.heap[g6]? = some (.cells (bs pubN).toArray 25 (0, 0)))
      have G0 : Hid (w7.drew.heap[g0]? = some (.cells (bs (List.replicate 32 0)).toArray 23 (0, 0))) := (X7.out.get (by simp) : w7.heap[g0]? = some (.cells (bs (List.replicate 32 0)).toArray 23 (0, 0)))
      have G1 : Hid (w7.drew.heap[g1]? = some (.cells (bs (List.replicate 12 0)).toArray 25 (0, 0))) := (X7.out.get (by simp) : w7.heap[g1]? = some (.cells (bs (List.replicate 12 0)).toArray 25 (0, 0)))
      have zd : w7.drew.heap.size = w7.heap.size := rfl
      have zw : w.heap.size ≤ w7.heap.size := X7.out.bel.size
      have uS := Try.underlying26
      have uB := Try.underlying5
      clear hne
      refine wp_calm ?_
      refine wp_region_o3 (fun _ w' => Fr (fun j => j = g0 ∨ j = g1) (w7).drew w') [0, 1] (.pre (.take 0 (.take 1 .done)) (.three 2 [0, 1] (.os (.two 3 [0, 1] (.two 4 [0, 1] (.run 5 [1] (.run 6 [] (.move 7 (.move 8 .done)))) 5 [1] (.two 4 [0, 1] (.run 6 [] (.move 7 (.move 8 .done))) 6 [] (.move 7 (.run 4 [0, 1] (.move 8 .done))))) 5 [1] (.two 3 [0, 1] (.two 4 [0, 1] (.run 6 [] (.move 7 (.move 8 .done))) 6 [] (.move 7 (.run 4 [0, 1] (.move 8 .done)))) 6 [] (.move 7 (.run 3 [0, 1] (.run 4 [0, 1] (.move 8 .done))))))) 3 [0, 1] (.three 2 [0, 1] (.os (.two 4 [0, 1] (.run 5 [1] (.run 6 [] (.move 7 (.move 8 .done)))) 5 [1] (.two 4 [0, 1] (.run 6 [] (.move 7 (.move 8 .done))) 6 [] (.move 7 (.run 4 [0, 1] (.move 8 .done)))))) 4 [0, 1] (.os (.two 2 [0, 1] (.run 5 [1] (.run 6 [] (.move 7 (.move 8 .done)))) 5 [1] (.two 2 [0, 1] (.run 6 [] (.move 7 (.move 8 .done))) 6 [] (.run 2 [0, 1] (.move 7 (.move 8 .done)))))) 5 [1] (.three 2 [0, 1] (.os (.two 4 [0, 1] (.run 6 [] (.move 7 (.move 8 .done))) 6 [] (.move 7 (.run 4 [0, 1] (.move 8 .done))))) 4 [0, 1] (.os (.two 2 [0, 1] (.run 6 [] (.move 7 (.move 8 .done))) 6 [] (.run 2 [0, 1] (.move 7 (.move 8 .done))))) 6 [] (.os (.two 2 [0, 1] (.move 7 (.run 4 [0, 1] (.move 8 .done))) 4 [0, 1] (.run 2 [0, 1] (.move 7 (.move 8 .done))))))) 5 [1] (.three 2 [0, 1] (.os (.two 3 [0, 1] (.two 4 [0, 1] (.run 6 [] (.move 7 (.move 8 .done))) 6 [] (.move 7 (.run 4 [0, 1] (.move 8 .done)))) 6 [] (.move 7 (.run 3 [0, 1] (.run 4 [0, 1] (.move 8 .done)))))) 3 [0, 1] (.three 2 [0, 1] (.os (.two 4 [0, 1] (.run 6 [] (.move 7 (.move 8 .done))) 6 [] (.move 7 (.run 4 [0, 1] (.move 8 .done))))) 4 [0, 1] (.os (.two 2 [0, 1] (.run 6 [] (.move 7 (.move 8 .done))) 6 [] (.run 2 [0, 1] (.move 7 (.move 8 .done))))) 6 [] (.os (.two 2 [0, 1] (.move 7 (.run 4 [0, 1] (.move 8 .done))) 4 [0, 1] (.run 2 [0, 1] (.move 7 (.move 8 .done)))))) 6 [] (.os (.two 2 [0, 1] (.move 7 (.run 3 [0, 1] (.run 4 [0, 1] (.move 8 .done)))) 3 [0, 1] (.two 2 [0, 1] (.move 7 (.run 4 [0, 1] (.move 8 .done))) 4 [0, 1] (.run 2 [0, 1] (.move 7 (.move 8 .done))))))))) (by kernel_rfl) (by kernel_rfl) (fun _ _ _ _ _ h => nomatch h.1) ?_
      have hS0 : Fr (fun j => j = g0 ∨ j = g1) (w7).drew (w7).drew := Fr.refl _ _
      refine o3_pre ?_
      generalize hPP : (List.append _ _ : List (Nat × Operand)) = PP
      have hpp : ∀ a : Act, (PP.map fun (x : Nat × Operand) => (x.1, a.eval x.2)) = (pubT.zipIdx 0).map fun x => (x.2, bv x.1) := by (intro a; rw [← hPP]; kernel_rfl)
      clear hPP
      refine os_load_mid 23 (.tmp 4) (g4) (0) (bs pubK) _ hS0 rfl rfl rfl rfl rfl (uK.out) rfl (i1.out) (fun w' h => rangeAt_fr (range_dr (r4.out)) h (by omega) l4) ⟨_, rfl, ?_⟩
      refine os_load_mid 25 (.tmp 6) (g6) (0) (bs pubN) _ hS0 rfl rfl rfl rfl rfl (uN.out) rfl (i2.out) (fun w' h => rangeAt_fr (range_dr (r6.out)) h (by omega) l6) ⟨_, rfl, ?_⟩
      refine o3_done ?_
      simp only [Act.put, List.setIfInBounds_toArray, List.set_cons_succ, List.set_cons_zero]
      refine o3_three rfl rfl rfl rfl rfl rfl (fun K hK => ?_) (fun K hK => ?_) (fun K hK => ?_)
      · refine wp_buildSlice_bytes 26 5 12 _ iB pubH rfl (by kernel_rfl) rfl (by decide) uS HiB.out HzB.out HsB.out ?_
        intro gh wh Eh Hh hbh
        have B19 : Hid (wh.heap[gh]? = some (.cells (bs pubH).toArray 5 (0, 0))) := Hh
        have e19 : w7.heap.size ≤ gh := by have := Eh.out; have := hS0.size; omega
        try have nht : gh ≠ gt := fun e => by have := (Array.getElem?_eq_some_iff.1 B20.out).1; have := Eh.out; have := hbh.size; omega
        try replace G0 := Lib.hid (heap_bel G0.out hbh)
        try replace G1 := Lib.hid (heap_bel G1.out hbh)
        try replace P0 := Lib.hid (heap_bel P0.out hbh)
        try replace P1 := Lib.hid (heap_bel P1.out hbh)
        try replace F20 := Lib.hid (heap_bel F20.out hbh)
        try replace B20 := Lib.hid (heap_bel B20.out hbh)
        clear Eh Hh
        refine hK _ _ ⟨fun _ _ h => Fr.tr h ((Fr.of_below (M := (fun j => j = g0 ∨ j = g1)) hbh)), ?_⟩
        clear hK
        replace hS0 := Fr.tr hS0 ((Fr.of_below (M := (fun j => j = g0 ∨ j = g1)) hbh))
        simp only [Act.put, List.setIfInBounds_toArray, List.set_cons_succ, List.set_cons_zero]
        refine o3_os ?_
        refine os_two rfl rfl rfl rfl (fun K hK => ?_) (fun K hK => ?_)
        · refine wp_buildSlice_bytes 26 5 114 PP iB pubT rfl (hpp _) pubT_len ⟨by omega, by omega⟩ uS HiB.out HzB.out HsB.out ?_
          intro gt wt Et Ht hbt
          have B20 : Hid (wt.heap[gt]? = some (.cells (bs pubT).toArray 5 (0, 0))) := Ht
          have e20 : w7.heap.size ≤ gt := by have := Et.out; have := hS0.size; omega
          try have nht : gh ≠ gt := fun e => by have := (Array.getElem?_eq_some_iff.1 B19.out).1; have := Et.out; have := hbt.size; omega
          try replace G0 := Lib.hid (heap_bel G0.out hbt)
          try replace G1 := Lib.hid (heap_bel G1.out hbt)
          try replace P0 := Lib.hid (heap_bel P0.out hbt)
          try replace P1 := Lib.hid (heap_bel P1.out hbt)
          try replace B19 := Lib.hid (heap_bel B19.out hbt)
          clear Et Ht
          refine hK _ _ ⟨fun _ _ h => Fr.tr h ((Fr.of_below (M := (fun j => j = g0 ∨ j = g1)) hbt)), ?_⟩
          clear hK
          replace hS0 := Fr.tr hS0 ((Fr.of_below (M := (fun j => j = g0 ∨ j = g1)) hbt))
          simp only [Act.put, List.setIfInBounds_toArray, List.set_cons_succ, List.set_cons_zero]
          refine os_two rfl rfl rfl rfl (fun K hK => ?_) (fun K hK => ?_)
          · refine wp_mark 26 5 (.tmp 20) gt 114 114 (bs pubT).toArray rfl rfl B20.out uS uB ?_
            intro wm Hm hgm
            have F20 : Hid (wm.heap[gt]? = some (.cells (bs pubT).toArray 5 ((bs pubT).toArray.size, (bs pubT).toArray.size + 1))) := Hm
            try replace G0 := Lib.hid (heap_gr hgm G0.out (by omega))
            try replace G1 := Lib.hid (heap_gr hgm G1.out (by omega))
            try replace P0 := Lib.hid (heap_gr hgm P0.out (by omega))
            try replace P1 := Lib.hid (heap_gr hgm P1.out (by omega))
            try replace B19 := Lib.hid (heap_gr hgm B19.out (by omega))
            clear Hm B20
            refine hK _ _ ⟨fun _ _ _ => hS0.trans (Fr.of_grown hgm) (fun i hi e => by injection e with e; omega), ?_⟩
            clear hK
            replace hS0 := hS0.trans (Fr.of_grown hgm) (fun i hi e => by injection e with e; omega)
            simp only [Act.put, List.setIfInBounds_toArray, List.set_cons_succ, List.set_cons_zero]
            refine os_run rfl rfl (fun K hK => ?_)
            refine wp_store_abs 23 (.tmp 0) (.tmp 17) rfl g0 23 _ (bs pubK).toArray rfl rfl G0.out (by simpa using i1.out) (by simp [bs_length, pubK_len]) (by simp; exact bs_oneCell _) ?_
            intro wk Hk hgk
            have P0 : Hid (wk.heap[g0]? = some (.cells (bs pubK).toArray 23 (0, 0))) := Hk
            try replace G1 := Lib.hid (heap_gr hgk G1.out (by omega))
            try replace P1 := Lib.hid (heap_gr hgk P1.out (by omega))
            try replace B19 := Lib.hid (heap_gr hgk B19.out (by omega))
            try replace B20 := Lib.hid (heap_gr hgk B20.out (by omega))
            try replace F20 := Lib.hid (heap_gr hgk F20.out (by omega))
            clear Hk G0
            refine hK _ _ ⟨fun _ _ h => Fr.tr h (((Fr.of_grown hgk).mono (fun j _ e => .inl (by injection e)))), ?_⟩
            clear hK
            replace hS0 := Fr.tr hS0 (((Fr.of_grown hgk).mono (fun j _ e => .inl (by injection e))))
            simp only [Act.put]
            refine os_run rfl rfl (fun K hK => ?_)
            refine wp_store_abs 25 (.tmp 1) (.tmp 18) rfl g1 25 _ (bs pubN).toArray rfl rfl G1.out (by simpa using i2.out) (by simp [bs_length, pubN]) (by simp; exact bs_oneCell _) ?_
            intro wn Hn hgn
            have P1 : Hid (wn.heap[g1]? = some (.cells (bs pubN).toArray 25 (0, 0))) := Hn
            try replace G0 := Lib.hid (heap_gr hgn G0.out (by omega))
            try replace P0 := Lib.hid (heap_gr hgn P0.out (by omega))
            try replace B19 := Lib.hid (heap_gr hgn B19.out (by omega))
            try replace B20 := Lib.hid (heap_gr hgn B20.out (by omega))
            try replace F20 := Lib.hid (heap_gr hgn F20.out (by omega))
            clear Hn G1
            refine hK _ _ ⟨fun _ hk => absurd hk List.not_mem_nil, ?_⟩
            clear hK
            replace hS0 := Fr.tr hS0 (((Fr.of_grown hgn).mono (fun j _ e => .inr (by injection e))))
            simp only [Act.put]
            refine os_move rfl rfl rfl (Nat.le_of_ble_eq_true rfl) ?_
            apply Exists.intro
            refine ⟨fun w' K hK => ?_, ?_⟩
            (focus
              go_simp
              exact hK)
            refine os_move rfl rfl rfl (Nat.le_of_ble_eq_true rfl) ?_
            apply Exists.intro
            refine ⟨fun w' K hK => ?_, ?_⟩
            (focus
              go_simp
              exact hK)
            refine os_done ⟨rfl, ?_⟩
            go_wp2_with fail
            refine bodyPost_ret (v := .tuple #[.agg (bs pubK).toArray, .agg (bs pubN).toArray, .slice (some ⟨gh, 0, none⟩) 12 12, .slice (some ⟨gt, 0, none⟩) 114 114])
              (results_pub Try.results22 rfl rfl rfl rfl (run_loadVar_mid _ g0 0 23 (bs pubK) _ (range_block P0.out) uK.out rfl i1.out) (run_loadVar_mid _ g1 0 25 (bs pubN) _ (range_block P1.out) uN.out rfl i2.out)) rfl
              ⟨gh, gt, rfl, Sl.of_block B19.out rfl 12 rfl, Sl.of_block F20.out rfl 114 pubT_len, by omega, by omega, ?_⟩
            exact ((Fr.of_below (below_drewN X7.out.bel 1)).trans hS0 (fun i _ h => h)).to_below (fun i hi e => by rcases e with e | e <;> omega)
          · refine wp_store_abs 23 (.tmp 0) (.tmp 17) rfl g0 23 _ (bs pubK).toArray rfl rfl G0.out (by simpa using i1.out) (by simp [bs_length, pubK_len]) (by simp; exact bs_oneCell _) ?_
            intro wk Hk hgk
            have P0 : Hid (wk.heap[g0]? = some (.cells (bs pubK).toArray 23 (0, 0))) := Hk
            try replace G1 := Lib.hid (heap_gr hgk G1.out (by omega))
            try replace P1 := Lib.hid (heap_gr hgk P1.out (by omega))
            try replace B19 := Lib.hid (heap_gr hgk B19.out (by omega))
            try replace B20 := Lib.hid (heap_gr hgk B20.out (by omega))
            try replace F20 := Lib.hid (heap_gr hgk F20.out (by omega))
            clear Hk G0
            refine hK _ _ ⟨fun _ _ h => Fr.tr h (((Fr.of_grown hgk).mono (fun j _ e => .inl (by injection e)))), ?_⟩
            clear hK
            replace hS0 := Fr.tr hS0 (((Fr.of_grown hgk).mono (fun j _ e => .inl (by injection e))))
            simp only [Act.put]
            refine os_two rfl rfl rfl rfl (fun K hK => ?_) (fun K hK => ?_)
            · refine wp_mark 26 5 (.tmp 20) gt 114 114 (bs pubT).toArray rfl rfl B20.out uS uB ?_
              intro wm Hm hgm
              have F20 : Hid (wm.heap[gt]? = some (.cells (bs pubT).toArray 5 ((bs pubT).toArray.size, (bs pubT).toArray.size + 1))) := Hm
              try replace G0 := Lib.hid (heap_gr hgm G0.out (by omega))
              try replace G1 := Lib.hid (heap_gr hgm G1.out (by omega))
              try replace P0 := Lib.hid (heap_gr hgm P0.out (by omega))
              try replace P1 := Lib.hid (heap_gr hgm P1.out (by omega))
              try replace B19 := Lib.hid (heap_gr hgm B19.out (by omega))
              clear Hm B20
              refine hK _ _ ⟨fun _ _ _ => hS0.trans (Fr.of_grown hgm) (fun i hi e => by injection e with e; omega), ?_⟩
              clear hK
              replace hS0 := hS0.trans (Fr.of_grown hgm) (fun i hi e => by injection e with e; omega)
              simp only [Act.put, List.setIfInBounds_toArray, List.set_cons_succ, List.set_cons_zero]
              refine os_run rfl rfl (fun K hK => ?_)
              refine wp_store_abs 25 (.tmp 1) (.tmp 18) rfl g1 25 _ (bs pubN).toArray rfl rfl G1.out (by simpa using i2.out) (by simp [bs_length, pubN]) (by simp; exact bs_oneCell _) ?_
              intro wn Hn hgn
              have P1 : Hid (wn.heap[g1]? = some (.cells (bs pubN).toArray 25 (0, 0))) := Hn
              try replace G0 := Lib.hid (heap_gr hgn G0.out (by omega))
              try replace P0 := Lib.hid (heap_gr hgn P0.out (by omega))
              try replace B19 := Lib.hid (heap_gr hgn B19.out (by omega))
              try replace B20 := Lib.hid (heap_gr hgn B20.out (by omega))
              try replace F20 := Lib.hid (heap_gr hgn F20.out (by omega))
              clear Hn G1
              refine hK _ _ ⟨fun _ hk => absurd hk List.not_mem_nil, ?_⟩
              clear hK
              replace hS0 := Fr.tr hS0 (((Fr.of_grown hgn).mono (fun j _ e => .inr (by injection e))))
              simp only [Act.put]
              refine os_move rfl rfl rfl (Nat.le_of_ble_eq_true rfl) ?_
              apply Exists.intro
              refine ⟨fun w' K hK => ?_, ?_⟩
              (focus
                go_simp
                exact hK)
              refine os_move rfl rfl rfl (Nat.le_of_ble_eq_true rfl) ?_
              apply Exists.intro
              refine ⟨fun w' K hK => ?_, ?_⟩
              (focus
                go_simp
                exact hK)
              refine os_done ⟨rfl, ?_⟩
              go_wp2_with fail
              refine bodyPost_ret (v := .tuple #[.agg (bs pubK).toArray, .agg (bs pubN).toArray, .slice (some ⟨gh, 0, none⟩) 12 12, .slice (some ⟨gt, 0, none⟩) 114 114])
                (results_pub Try.results22 rfl rfl rfl rfl (run_loadVar_mid _ g0 0 23 (bs pubK) _ (range_block P0.out) uK.out rfl i1.out) (run_loadVar_mid _ g1 0 25 (bs pubN) _ (range_block P1.out) uN.out rfl i2.out)) rfl
                ⟨gh, gt, rfl, Sl.of_block B19.out rfl 12 rfl, Sl.of_block F20.out rfl 114 pubT_len, by omega, by omega, ?_⟩
              exact ((Fr.of_below (below_drewN X7.out.bel 1)).trans hS0 (fun i _ h => h)).to_below (fun i hi e => by rcases e with e | e <;> omega)
            · refine wp_store_abs 25 (.tmp 1) (.tmp 18) rfl g1 25 _ (bs pubN).toArray rfl rfl G1.out (by simpa using i2.out) (by simp [bs_length, pubN]) (by simp; exact bs_oneCell _) ?_
              intro wn Hn hgn
              have P1 : Hid (wn.heap[g1]? = some (.cells (bs pubN).toArray 25 (0, 0))) := Hn
              try replace G0 := Lib.hid (heap_gr hgn G0.out (by omega))
              try replace P0 := Lib.hid (heap_gr hgn P0.out (by omega))
              try replace B19 := Lib.hid (heap_gr hgn B19.out (by omega))
              try replace B20 := Lib.hid (heap_gr hgn B20.out (by omega))
              try replace F20 := Lib.hid (heap_gr hgn F20.out (by omega))
              clear Hn G1
              refine hK _ _ ⟨fun _ hk => absurd hk List.not_mem_nil, ?_⟩
              clear hK
              replace hS0 := Fr.tr hS0 (((Fr.of_grown hgn).mono (fun j _ e => .inr (by injection e))))
              simp only [Act.put]
              refine os_move rfl rfl rfl (Nat.le_of_ble_eq_true rfl) ?_
              apply Exists.intro
              refine ⟨fun w' K hK => ?_, ?_⟩
              (focus
                go_simp
                exact hK)
              refine os_run rfl rfl (fun K hK => ?_)
              refine wp_mark 26 5 (.tmp 20) gt 114 114 (bs pubT).toArray rfl rfl B20.out uS uB ?_
              intro wm Hm hgm
              have F20 : Hid (wm.heap[gt]? = some (.cells (bs pubT).toArray 5 ((bs pubT).toArray.size, (bs pubT).toArray.size + 1))) := Hm
              try replace G0 := Lib.hid (heap_gr hgm G0.out (by omega))
              try replace G1 := Lib.hid (heap_gr hgm G1.out (by omega))
              try replace P0 := Lib.hid (heap_gr hgm P0.out (by omega))
              try replace P1 := Lib.hid (heap_gr hgm P1.out (by omega))
              try replace B19 := Lib.hid (heap_gr hgm B19.out (by omega))
              clear Hm B20
              refine hK _ _ ⟨fun _ _ _ => hS0.trans (Fr.of_grown hgm) (fun i hi e => by injection e with e; omega), ?_⟩
              clear hK
              replace hS0 := hS0.trans (Fr.of_grown hgm) (fun i hi e => by injection e with e; omega)
              simp only [Act.put, List.setIfInBounds_toArray, List.set_cons_succ, List.set_cons_zero]
              refine os_move rfl rfl rfl (Nat.le_of_ble_eq_true rfl) ?_
              apply Exists.intro
              refine ⟨fun w' K hK => ?_, ?_⟩
              (focus
                go_simp
                exact hK)
              refine os_done ⟨rfl, ?_⟩
              go_wp2_with fail
              refine bodyPost_ret (v := .tuple #[.agg (bs pubK).toArray, .agg (bs pubN).toArray, .slice (some ⟨gh, 0, none⟩) 12 12, .slice (some ⟨gt, 0, none⟩) 114 114])
                (results_pub Try.results22 rfl rfl rfl rfl (run_loadVar_mid _ g0 0 23 (bs pubK) _ (range_block P0.out) uK.out rfl i1.out) (run_loadVar_mid _ g1 0 25 (bs pubN) _ (range_block P1.out) uN.out rfl i2.out)) rfl
                ⟨gh, gt, rfl, Sl.of_block B19.out rfl 12 rfl, Sl.of_block F20.out rfl 114 pubT_len, by omega, by omega, ?_⟩
              exact ((Fr.of_below (below_drewN X7.out.bel 1)).trans hS0 (fun i _ h => h)).to_below (fun i hi e => by rcases e with e | e <;> omega)
        · refine wp_store_abs 23 (.tmp 0) (.tmp 17) rfl g0 23 _ (bs pubK).toArray rfl rfl G0.out (by simpa using i1.out) (by simp [bs_length, pubK_len]) (by simp; exact bs_oneCell _) ?_
          intro wk Hk hgk
          have P0 : Hid (wk.heap[g0]? = some (.cells (bs pubK).toArray 23 (0, 0))) := Hk
          try replace G1 := Lib.hid (heap_gr hgk G1.out (by omega))
          try replace P1 := Lib.hid (heap_gr hgk P1.out (by omega))
          try replace B19 := Lib.hid (heap_gr hgk B19.out (by omega))
          try replace B20 := Lib.hid (heap_gr hgk B20.out (by omega))
          try replace F20 := Lib.hid (heap_gr hgk F20.out (by omega))
          clear Hk G0
          refine hK _ _ ⟨fun _ _ h => Fr.tr h (((Fr.of_grown hgk).mono (fun j _ e => .inl (by injection e)))), ?_⟩
          clear hK
          replace hS0 := Fr.tr hS0 (((Fr.of_grown hgk).mono (fun j _ e => .inl (by injection e))))
          simp only [Act.put]
          refine os_two rfl rfl rfl rfl (fun K hK => ?_) (fun K hK => ?_)
          · refine wp_buildSlice_bytes 26 5 114 PP iB pubT rfl (hpp _) pubT_len ⟨by omega, by omega⟩ uS HiB.out HzB.out HsB.out ?_
            intro gt wt Et Ht hbt
            have B20 : Hid (wt.heap[gt]? = some (.cells (bs pubT).toArray 5 (0, 0))) := Ht
            have e20 : w7.heap.size ≤ gt := by have := Et.out; have := hS0.size; omega
            try have nht : gh ≠ gt := fun e => by have := (Array.getElem?_eq_some_iff.1 B19.out).1; have := Et.out; have := hbt.size; omega
            try replace G0 := Lib.hid (heap_bel G0.out hbt)
            try replace G1 := Lib.hid (heap_bel G1.out hbt)
            try replace P0 := Lib.hid (heap_bel P0.out hbt)
            try replace P1 := Lib.hid (heap_bel P1.out hbt)
            try replace B19 := Lib.hid (heap_bel B19.out hbt)
            clear Et Ht
            refine hK _ _ ⟨fun _ _ h => Fr.tr h ((Fr.of_below (M := (fun j => j = g0 ∨ j = g1)) hbt)), ?_⟩
            clear hK
            replace hS0 := Fr.tr hS0 ((Fr.of_below (M := (fun j => j = g0 ∨ j = g1)) hbt))
            simp only [Act.put, List.setIfInBounds_toArray, List.set_cons_succ, List.set_cons_zero]
            refine os_two rfl rfl rfl rfl (fun K hK => ?_) (fun K hK => ?_)
            · refine wp_mark 26 5 (.tmp 20) gt 114 114 (bs pubT).toArray rfl rfl B20.out uS uB ?_
              intro wm Hm hgm
              have F20 : Hid (wm.heap[gt]? = some (.cells (bs pubT).toArray 5 ((bs pubT).toArray.size, (bs pubT).toArray.size + 1))) := Hm
              try replace G0 := Lib.hid (heap_gr hgm G0.out (by omega))
              try replace G1 := Lib.hid (heap_gr hgm G1.out (by omega))
              try replace P0 := Lib.hid (heap_gr hgm P0.out (by omega))
              try replace P1 := Lib.hid (heap_gr hgm P1.out (by omega))
              try replace B19 := Lib.hid (heap_gr hgm B19.out (by omega))
              clear Hm B20
              refine hK _ _ ⟨fun _ _ _ => hS0.trans (Fr.of_grown hgm) (fun i hi e => by injection e with e; omega), ?_⟩
              clear hK
              replace hS0 := hS0.trans (Fr.of_grown hgm) (fun i hi e => by injection e with e; omega)
              simp only [Act.put, List.setIfInBounds_toArray, List.set_cons_succ, List.set_cons_zero]
              refine os_run rfl rfl (fun K hK => ?_)
              refine wp_store_abs 25 (.tmp 1) (.tmp 18) rfl g1 25 _ (bs pubN).toArray rfl rfl G1.out (by simpa using i2.out) (by simp [bs_length, pubN]) (by simp; exact bs_oneCell _) ?_
              intro wn Hn hgn
              have P1 : Hid (wn.heap[g1]? = some (.cells (bs pubN).toArray 25 (0, 0))) := Hn
              try replace G0 := Lib.hid (heap_gr hgn G0.out (by omega))
              try replace P0 := Lib.hid (heap_gr hgn P0.out (by omega))
              try replace B19 := Lib.hid (heap_gr hgn B19.out (by omega))
              try replace B20 := Lib.hid (heap_gr hgn B20.out (by omega))
              try replace F20 := Lib.hid (heap_gr hgn F20.out (by omega))
              clear Hn G1
              refine hK _ _ ⟨fun _ hk => absurd hk List.not_mem_nil, ?_⟩
              clear hK
              replace hS0 := Fr.tr hS0 (((Fr.of_grown hgn).mono (fun j _ e => .inr (by injection e))))
              simp only [Act.put]
              refine os_move rfl rfl rfl (Nat.le_of_ble_eq_true rfl) ?_
              apply Exists.intro
              refine ⟨fun w' K hK => ?_, ?_⟩
              (focus
                go_simp
                exact hK)
              refine os_move rfl rfl rfl (Nat.le_of_ble_eq_true rfl) ?_
              apply Exists.intro
              refine ⟨fun w' K hK => ?_, ?_⟩
              (focus
                go_simp
                exact hK)
              refine os_done ⟨rfl, ?_⟩
              go_wp2_with fail
              refine bodyPost_ret (v := .tuple #[.agg (bs pubK).toArray, .agg (bs pubN).toArray, .slice (some ⟨gh, 0, none⟩) 12 12, .slice (some ⟨gt, 0, none⟩) 114 114])
                (results_pub Try.results22 rfl rfl rfl rfl (run_loadVar_mid _ g0 0 23 (bs pubK) _ (range_block P0.out) uK.out rfl i1.out) (run_loadVar_mid _ g1 0 25 (bs pubN) _ (range_block P1.out) uN.out rfl i2.out)) rfl
                ⟨gh, gt, rfl, Sl.of_block B19.out rfl 12 rfl, Sl.of_block F20.out rfl 114 pubT_len, by omega, by omega, ?_⟩
              exact ((Fr.of_below (below_drewN X7.out.bel 1)).trans hS0 (fun i _ h => h)).to_below (fun i hi e => by rcases e with e | e <;> omega)
            · refine wp_store_abs 25 (.tmp 1) (.tmp 18) rfl g1 25 _ (bs pubN).toArray rfl rfl G1.out (by simpa using i2.out) (by simp [bs_length, pubN]) (by simp; exact bs_oneCell _) ?_
              intro wn Hn hgn
              have P1 : Hid (wn.heap[g1]? = some (.cells (bs pubN).toArray 25 (0, 0))) := Hn
              try replace G0 := Lib.hid (heap_gr hgn G0.out (by omega))
              try replace P0 := Lib.hid (heap_gr hgn P0.out (by omega))
              try replace B19 := Lib.hid (heap_gr hgn B19.out (by omega))
              try replace B20 := Lib.hid (heap_gr hgn B20.out (by omega))
              try replace F20 := Lib.hid (heap_gr hgn F20.out (by omega))
              clear Hn G1
              refine hK _ _ ⟨fun _ hk => absurd hk List.not_mem_nil, ?_⟩
              clear hK
              replace hS0 := Fr.tr hS0 (((Fr.of_grown hgn).mono (fun j _ e => .inr (by injection e))))
              simp only [Act.put]
              refine os_move rfl rfl rfl (Nat.le_of_ble_eq_true rfl) ?_
              apply Exists.intro
              refine ⟨fun w' K hK => ?_, ?_⟩
              (focus
                go_simp
                exact hK)
              refine os_run rfl rfl (fun K hK => ?_)
              refine wp_mark 26 5 (.tmp 20) gt 114 114 (bs pubT).toArray rfl rfl B20.out uS uB ?_
              intro wm Hm hgm
              have F20 : Hid (wm.heap[gt]? = some (.cells (bs pubT).toArray 5 ((bs pubT).toArray.size, (bs pubT).toArray.size + 1))) := Hm
              try replace G0 := Lib.hid (heap_gr hgm G0.out (by omega))
              try replace G1 := Lib.hid (heap_gr hgm G1.out (by omega))
              try replace P0 := Lib.hid (heap_gr hgm P0.out (by omega))
              try replace P1 := Lib.hid (heap_gr hgm P1.out (by omega))
              try replace B19 := Lib.hid (heap_gr hgm B19.out (by omega))
              clear Hm B20
              refine hK _ _ ⟨fun _ _ _ => hS0.trans (Fr.of_grown hgm) (fun i hi e => by injection e with e; omega), ?_⟩
              clear hK
              replace hS0 := hS0.trans (Fr.of_grown hgm) (fun i hi e => by injection e with e; omega)
              simp only [Act.put, List.setIfInBounds_toArray, List.set_cons_succ, List.set_cons_zero]
              refine os_move rfl rfl rfl (Nat.le_of_ble_eq_true rfl) ?_
              apply Exists.intro
              refine ⟨fun w' K hK => ?_, ?_⟩
              (focus
                go_simp
                exact hK)
              refine os_done ⟨rfl, ?_⟩
              go_wp2_with fail
              refine bodyPost_ret (v := .tuple #[.agg (bs pubK).toArray, .agg (bs pubN).toArray, .slice (some ⟨gh, 0, none⟩) 12 12, .slice (some ⟨gt, 0, none⟩) 114 114])
                (results_pub Try.results22 rfl rfl rfl rfl (run_loadVar_mid _ g0 0 23 (bs pubK) _ (range_block P0.out) uK.out rfl i1.out) (run_loadVar_mid _ g1 0 25 (bs pubN) _ (range_block P1.out) uN.out rfl i2.out)) rfl
                ⟨gh, gt, rfl, Sl.of_block B19.out rfl 12 rfl, Sl.of_block F20.out rfl 114 pubT_len, by omega, by omega, ?_⟩
              exact ((Fr.of_below (below_drewN X7.out.bel 1)).trans hS0 (fun i _ h => h)).to_below (fun i hi e => by rcases e with e | e <;> omega)
          · refine wp_store_abs 25 (.tmp 1) (.tmp 18) rfl g1 25 _ (bs pubN).toArray rfl rfl G1.out (by simpa using i2.out) (by simp [bs_length, pubN]) (by simp; exact bs_oneCell _) ?_
            intro wn Hn hgn
            have P1 : Hid (wn.heap[g1]? = some (.cells (bs pubN).toArray 25 (0, 0))) := Hn
            try replace G0 := Lib.hid (heap_gr hgn G0.out (by omega))
            try replace P0 := Lib.hid (heap_gr hgn P0.out (by omega))
            try replace B19 := Lib.hid (heap_gr hgn B19.out (by omega))
            try replace B20 := Lib.hid (heap_gr hgn B20.out (by omega))
            try replace F20 := Lib.hid (heap_gr hgn F20.out (by omega))
            clear Hn G1
            refine hK _ _ ⟨fun _ hk => absurd hk List.not_mem_nil, ?_⟩
            clear hK
            replace hS0 := Fr.tr hS0 (((Fr.of_grown hgn).mono (fun j _ e => .inr (by injection e))))
            simp only [Act.put]
            refine os_move rfl rfl rfl (Nat.le_of_ble_eq_true rfl) ?_
            apply Exists.intro
            refine ⟨fun w' K hK => ?_, ?_⟩
            (focus
              go_simp
              exact hK)
            refine os_run rfl rfl (fun K hK => ?_)
            refine wp_buildSlice_bytes 26 5 114 PP iB pubT rfl (hpp _) pubT_len ⟨by omega, by omega⟩ uS HiB.out HzB.out HsB.out ?_
            intro gt wt Et Ht hbt
            have B20 : Hid (wt.heap[gt]? = some (.cells (bs pubT).toArray 5 (0, 0))) := Ht
            have e20 : w7.heap.size ≤ gt := by have := Et.out; have := hS0.size; omega
            try have nht : gh ≠ gt := fun e => by have := (Array.getElem?_eq_some_iff.1 B19.out).1; have := Et.out; have := hbt.size; omega
            try replace G0 := Lib.hid (heap_bel G0.out hbt)
            try replace G1 := Lib.hid (heap_bel G1.out hbt)
            try replace P0 := Lib.hid (heap_bel P0.out hbt)
            try replace P1 := Lib.hid (heap_bel P1.out hbt)
            try replace B19 := Lib.hid (heap_bel B19.out hbt)
            clear Et Ht
            refine hK _ _ ⟨fun _ _ h => Fr.tr h ((Fr.of_below (M := (fun j => j = g0 ∨ j = g1)) hbt)), ?_⟩
            clear hK
            replace hS0 := Fr.tr hS0 ((Fr.of_below (M := (fun j => j = g0 ∨ j = g1)) hbt))
            simp only [Act.put, List.setIfInBounds_toArray, List.set_cons_succ, List.set_cons_zero]
            refine os_run rfl rfl (fun K hK => ?_)
            refine wp_mark 26 5 (.tmp 20) gt 114 114 (bs pubT).toArray rfl rfl B20.out uS uB ?_
            intro wm Hm hgm
            have F20 : Hid (wm.heap[gt]? = some (.cells (bs pubT).toArray 5 ((bs pubT).toArray.size, (bs pubT).toArray.size + 1))) := Hm
            try replace G0 := Lib.hid (heap_gr hgm G0.out (by omega))
            try replace G1 := Lib.hid (heap_gr hgm G1.out (by omega))
            try replace P0 := Lib.hid (heap_gr hgm P0.out (by omega))
            try replace P1 := Lib.hid (heap_gr hgm P1.out (by omega))
            try replace B19 := Lib.hid (heap_gr hgm B19.out (by omega))
            clear Hm B20
            refine hK _ _ ⟨fun _ _ _ => hS0.trans (Fr.of_grown hgm) (fun i hi e => by injection e with e; omega), ?_⟩
            clear hK
            replace hS0 := hS0.trans (Fr.of_grown hgm) (fun i hi e => by injection e with e; omega)
            simp only [Act.put, List.setIfInBounds_toArray, List.set_cons_succ, List.set_cons_zero]
            refine os_move rfl rfl rfl (Nat.le_of_ble_eq_true rfl) ?_
            apply Exists.intro
            refine ⟨fun w' K hK => ?_, ?_⟩
            (focus
              go_simp
              exact hK)
            refine os_done ⟨rfl, ?_⟩
            go_wp2_with fail
            refine bodyPost_ret (v := .tuple #[.agg (bs pubK).toArray, .agg (bs pubN).toArray, .slice (some ⟨gh, 0, none⟩) 12 12, .slice (some ⟨gt, 0, none⟩) 114 114])
              (results_pub Try.results22 rfl rfl rfl rfl (run_loadVar_mid _ g0 0 23 (bs pubK) _ (range_block P0.out) uK.out rfl i1.out) (run_loadVar_mid _ g1 0 25 (bs pubN) _ (range_block P1.out) uN.out rfl i2.out)) rfl
              ⟨gh, gt, rfl, Sl.of_block B19.out rfl 12 rfl, Sl.of_block F20.out rfl 114 pubT_len, by omega, by omega, ?_⟩
            exact ((Fr.of_below (below_drewN X7.out.bel 1)).trans hS0 (fun i _ h => h)).to_below (fun i hi e => by rcases e with e | e <;> omega)
      · refine wp_buildSlice_bytes 26 5 114 PP iB pubT rfl (hpp _) pubT_len ⟨by omega, by omega⟩ uS HiB.out HzB.out HsB.out ?_
        intro gt wt Et Ht hbt
        have B20 : Hid (wt.heap[gt]? = some (.cells (bs pubT).toArray 5 (0, 0))) := Ht
        have e20 : w7.heap.size ≤ gt := by have := Et.out; have := hS0.size; omega
        try have nht : gh ≠ gt := fun e => by have := (Array.getElem?_eq_some_iff.1 B19.out).1; have := Et.out; have := hbt.size; omega
        try replace G0 := Lib.hid (heap_bel G0.out hbt)
        try replace G1 := Lib.hid (heap_bel G1.out hbt)
        try replace P0 := Lib.hid (heap_bel P0.out hbt)
        try replace P1 := Lib.hid (heap_bel P1.out hbt)
        try replace B19 := Lib.hid (heap_bel B19.out hbt)
        clear Et Ht
        refine hK _ _ ⟨fun _ _ h => Fr.tr h ((Fr.of_below (M := (fun j => j = g0 ∨ j = g1)) hbt)), ?_⟩
        clear hK
        replace hS0 := Fr.tr hS0 ((Fr.of_below (M := (fun j => j = g0 ∨ j = g1)) hbt))
        simp only [Act.put, List.setIfInBounds_toArray, List.set_cons_succ, List.set_cons_zero]
        refine o3_three rfl rfl rfl rfl rfl rfl (fun K hK => ?_) (fun K hK => ?_) (fun K hK => ?_)
        · refine wp_buildSlice_bytes 26 5 12 _ iB pubH rfl (by kernel_rfl) rfl (by decide) uS HiB.out HzB.out HsB.out ?_
          intro gh wh Eh Hh hbh
          have B19 : Hid (wh.heap[gh]? = some (.cells (bs pubH).toArray 5 (0, 0))) := Hh
          have e19 : w7.heap.size ≤ gh := by have := Eh.out; have := hS0.size; omega
          try have nht : gh ≠ gt := fun e => by have := (Array.getElem?_eq_some_iff.1 B20.out).1; have := Eh.out; have := hbh.size; omega
          try replace G0 := Lib.hid (heap_bel G0.out hbh)
          try replace G1 := Lib.hid (heap_bel G1.out hbh)
          try replace P0 := Lib.hid (heap_bel P0.out hbh)
          try replace P1 := Lib.hid (heap_bel P1.out hbh)
          try replace F20 := Lib.hid (heap_bel F20.out hbh)
          try replace B20 := Lib.hid (heap_bel B20.out hbh)
          clear Eh Hh
          refine hK _ _ ⟨fun _ _ h => Fr.tr h ((Fr.of_below (M := (fun j => j = g0 ∨ j = g1)) hbh)), ?_⟩
          clear hK
          replace hS0 := Fr.tr hS0 ((Fr.of_below (M := (fun j => j = g0 ∨ j = g1)) hbh))
          simp only [Act.put, List.setIfInBounds_toArray, List.set_cons_succ, List.set_cons_zero]
          refine o3_os ?_
          refine os_two rfl rfl rfl rfl (fun K hK => ?_) (fun K hK => ?_)
          · refine wp_mark 26 5 (.tmp 20) gt 114 114 (bs pubT).toArray rfl rfl B20.out uS uB ?_
            intro wm Hm hgm
            have F20 : Hid (wm.heap[gt]? = some (.cells (bs pubT).toArray 5 ((bs pubT).toArray.size, (bs pubT).toArray.size + 1))) := Hm
            try replace G0 := Lib.hid (heap_gr hgm G0.out (by omega))
            try replace G1 := Lib.hid (heap_gr hgm G1.out (by omega))
            try replace P0 := Lib.hid (heap_gr hgm P0.out (by omega))
            try replace P1 := Lib.hid (heap_gr hgm P1.out (by omega))
            try replace B19 := Lib.hid (heap_gr hgm B19.out (by omega))
            clear Hm B20
            refine hK _ _ ⟨fun _ _ _ => hS0.trans (Fr.of_grown hgm) (fun i hi e => by injection e with e; omega), ?_⟩
            clear hK
            replace hS0 := hS0.trans (Fr.of_grown hgm) (fun i hi e => by injection e with e; omega)
            simp only [Act.put, List.setIfInBounds_toArray, List.set_cons_succ, List.set_cons_zero]
            refine os_run rfl rfl (fun K hK => ?_)
            refine wp_store_abs 23 (.tmp 0) (.tmp 17) rfl g0 23 _ (bs pubK).toArray rfl rfl G0.out (by simpa using i1.out) (by simp [bs_length, pubK_len]) (by simp; exact bs_oneCell _) ?_
            intro wk Hk hgk
            have P0 : Hid (wk.heap[g0]? = some (.cells (bs pubK).toArray 23 (0, 0))) := Hk
            try replace G1 := Lib.hid (heap_gr hgk G1.out (by omega))
            try replace P1 := Lib.hid (heap_gr hgk P1.out (by omega))
            try replace B19 := Lib.hid (heap_gr hgk B19.out (by omega))
            try replace B20 := Lib.hid (heap_gr hgk B20.out (by omega))
            try replace F20 := Lib.hid (heap_gr hgk F20.out (by omega))
            clear Hk G0
            refine hK _ _ ⟨fun _ _ h => Fr.tr h (((Fr.of_grown hgk).mono (fun j _ e => .inl (by injection e)))), ?_⟩
            clear hK
            replace hS0 := Fr.tr hS0 (((Fr.of_grown hgk).mono (fun j _ e => .inl (by injection e))))
            simp only [Act.put]
            refine os_run rfl rfl (fun K hK => ?_)
            refine wp_store_abs 25 (.tmp 1) (.tmp 18) rfl g1 25 _ (bs pubN).toArray rfl rfl G1.out (by simpa using i2.out) (by simp [bs_length, pubN]) (by simp; exact bs_oneCell _) ?_
            intro wn Hn hgn
            have P1 : Hid (wn.heap[g1]? = some (.cells (bs pubN).toArray 25 (0, 0))) := Hn
            try replace G0 := Lib.hid (heap_gr hgn G0.out (by omega))
            try replace P0 := Lib.hid (heap_gr hgn P0.out (by omega))
            try replace B19 := Lib.hid (heap_gr hgn B19.out (by omega))
            try replace B20 := Lib.hid (heap_gr hgn B20.out (by omega))
            try replace F20 := Lib.hid (heap_gr hgn F20.out (by omega))
            clear Hn G1
            refine hK _ _ ⟨fun _ hk => absurd hk List.not_mem_nil, ?_⟩
            clear hK
            replace hS0 := Fr.tr hS0 (((Fr.of_grown hgn).mono (fun j _ e => .inr (by injection e))))
            simp only [Act.put]
            refine os_move rfl rfl rfl (Nat.le_of_ble_eq_true rfl) ?_
            apply Exists.intro
            refine ⟨fun w' K hK => ?_, ?_⟩
            (focus
              go_simp
              exact hK)
            refine os_move rfl rfl rfl (Nat.le_of_ble_eq_true rfl) ?_
            apply Exists.intro
            refine ⟨fun w' K hK => ?_, ?_⟩
            (focus
              go_simp
              exact hK)
            refine os_done ⟨rfl, ?_⟩
            go_wp2_with fail
            refine bodyPost_ret (v := .tuple #[.agg (bs pubK).toArray, .agg (bs pubN).toArray, .slice (some ⟨gh, 0, none⟩) 12 12, .slice (some ⟨gt, 0, none⟩) 114 114])
              (results_pub Try.results22 rfl rfl rfl rfl (run_loadVar_mid _ g0 0 23 (bs pubK) _ (range_block P0.out) uK.out rfl i1.out) (run_loadVar_mid _ g1 0 25 (bs pubN) _ (range_block P1.out) uN.out rfl i2.out)) rfl
              ⟨gh, gt, rfl, Sl.of_block B19.out rfl 12 rfl, Sl.of_block F20.out rfl 114 pubT_len, by omega, by omega, ?_⟩
            exact ((Fr.of_below (below_drewN X7.out.bel 1)).trans hS0 (fun i _ h => h)).to_below (fun i hi e => by rcases e with e | e <;> omega)
          · refine wp_store_abs 23 (.tmp 0) (.tmp 17) rfl g0 23 _ (bs pubK).toArray rfl rfl G0.out (by simpa using i1.out) (by simp [bs_length, pubK_len]) (by simp; exact bs_oneCell _) ?_
            intro wk Hk hgk
            have P0 : Hid (wk.heap[g0]? = some (.cells (bs pubK).toArray 23 (0, 0))) := Hk
            try replace G1 := Lib.hid (heap_gr hgk G1.out (by omega))
            try replace P1 := Lib.hid (heap_gr hgk P1.out (by omega))
            try replace B19 := Lib.hid (heap_gr hgk B19.out (by omega))
            try replace B20 := Lib.hid (heap_gr hgk B20.out (by omega))
            try replace F20 := Lib.hid (heap_gr hgk F20.out (by omega))
            clear Hk G0
            refine hK _ _ ⟨fun _ _ h => Fr.tr h (((Fr.of_grown hgk).mono (fun j _ e => .inl (by injection e)))), ?_⟩
            clear hK
            replace hS0 := Fr.tr hS0 (((Fr.of_grown hgk).mono (fun j _ e => .inl (by injection e))))
            simp only [Act.put]
            refine os_two rfl rfl rfl rfl (fun K hK => ?_) (fun K hK => ?_)
            · refine wp_mark 26 5 (.tmp 20) gt 114 114 (bs pubT).toArray rfl rfl B20.out uS uB ?_
              intro wm Hm hgm
              have F20 : Hid (wm.heap[gt]? = some (.cells (bs pubT).toArray 5 ((bs pubT).toArray.size, (bs pubT).toArray.size + 1))) := Hm
              try replace G0 := Lib.hid (heap_gr hgm G0.out (by omega))
              try replace G1 := Lib.hid (heap_gr hgm G1.out (by omega))
              try replace P0 := Lib.hid (heap_gr hgm P0.out (by omega))
              try replace P1 := Lib.hid (heap_gr hgm P1.out (by omega))
              try replace B19 := Lib.hid (heap_gr hgm B19.out (by omega))
              clear Hm B20
              refine hK _ _ ⟨fun _ _ _ => hS0.trans (Fr.of_grown hgm) (fun i hi e => by injection e with e; omega), ?_⟩
              clear hK
              replace hS0 := hS0.trans (Fr.of_grown hgm) (fun i hi e => by injection e with e; omega)
              simp only [Act.put, List.setIfInBounds_toArray, List.set_cons_succ, List.set_cons_zero]
              refine os_run rfl rfl (fun K hK => ?_)
              refine wp_store_abs 25 (.tmp 1) (.tmp 18) rfl g1 25 _ (bs pubN).toArray rfl rfl G1.out (by simpa using i2.out) (by simp [bs_length, pubN]) (by simp; exact bs_oneCell _) ?_
              intro wn Hn hgn
              have P1 : Hid (wn.heap[g1]? = some (.cells (bs pubN).toArray 25 (0, 0))) := Hn
              try replace G0 := Lib.hid (heap_gr hgn G0.out (by omega))
              try replace P0 := Lib.hid (heap_gr hgn P0.out (by omega))
              try replace B19 := Lib.hid (heap_gr hgn B19.out (by omega))
              try replace B20 := Lib.hid (heap_gr hgn B20.out (by omega))
              try replace F20 := Lib.hid (heap_gr hgn F20.out (by omega))
              clear Hn G1
              refine hK _ _ ⟨fun _ hk => absurd hk List.not_mem_nil, ?_⟩
              clear hK
              replace hS0 := Fr.tr hS0 (((Fr.of_grown hgn).mono (fun j _ e => .inr (by injection e))))
              simp only [Act.put]
              refine os_move rfl rfl rfl (Nat.le_of_ble_eq_true rfl) ?_
              apply Exists.intro
              refine ⟨fun w' K hK => ?_, ?_⟩
              (focus
                go_simp
                exact hK)
              refine os_move rfl rfl rfl (Nat.le_of_ble_eq_true rfl) ?_
              apply Exists.intro
              refine ⟨fun w' K hK => ?_, ?_⟩
              (focus
                go_simp
                exact hK)
              refine os_done ⟨rfl, ?_⟩
              go_wp2_with fail
              refine bodyPost_ret (v := .tuple #[.agg (bs pubK).toArray, .agg (bs pubN).toArray, .slice (some ⟨gh, 0, none⟩) 12 12, .slice (some ⟨gt, 0, none⟩) 114 114])
                (results_pub Try.results22 rfl rfl rfl rfl (run_loadVar_mid _ g0 0 23 (bs pubK) _ (range_block P0.out) uK.out rfl i1.out) (run_loadVar_mid _ g1 0 25 (bs pubN) _ (range_block P1.out) uN.out rfl i2.out)) rfl
                ⟨gh, gt, rfl, Sl.of_block B19.out rfl 12 rfl, Sl.of_block F20.out rfl 114 pubT_len, by omega, by omega, ?_⟩
              exact ((Fr.of_below (below_drewN X7.out.bel 1)).trans hS0 (fun i _ h => h)).to_below (fun i hi e => by rcases e with e | e <;> omega)
            · refine wp_store_abs 25 (.tmp 1) (.tmp 18) rfl g1 25 _ (bs pubN).toArray rfl rfl G1.out (by simpa using i2.out) (by simp [bs_length, pubN]) (by simp; exact bs_oneCell _) ?_
              intro wn Hn hgn
              have P1 : Hid (wn.heap[g1]? = some (.cells (bs pubN).toArray 25 (0, 0))) := Hn
              try replace G0 := Lib.hid (heap_gr hgn G0.out (by omega))
              try replace P0 := Lib.hid (heap_gr hgn P0.out (by omega))
              try replace B19 := Lib.hid (heap_gr hgn B19.out (by omega))
              try replace B20 := Lib.hid (heap_gr hgn B20.out (by omega))
              try replace F20 := Lib.hid (heap_gr hgn F20.out (by omega))
              clear Hn G1
              refine hK _ _ ⟨fun _ hk => absurd hk List.not_mem_nil, ?_⟩
              clear hK
              replace hS0 := Fr.tr hS0 (((Fr.of_grown hgn).mono (fun j _ e => .inr (by injection e))))
              simp only [Act.put]
              refine os_move rfl rfl rfl (Nat.le_of_ble_eq_true rfl) ?_
              apply Exists.intro
              refine ⟨fun w' K hK => ?_, ?_⟩
              (focus
                go_simp
                exact hK)
              refine os_run rfl rfl (fun K hK => ?_)
              refine wp_mark 26 5 (.tmp 20) gt 114 114 (bs pubT).toArray rfl rfl B20.out uS uB ?_
              intro wm Hm hgm
              have F20 : Hid (wm.heap[gt]? = some (.cells (bs pubT).toArray 5 ((bs pubT).toArray.size, (bs pubT).toArray.size + 1))) := Hm
              try replace G0 := Lib.hid (heap_gr hgm G0.out (by omega))
              try replace G1 := Lib.hid (heap_gr hgm G1.out (by omega))
              try replace P0 := Lib.hid (heap_gr hgm P0.out (by omega))
              try replace P1 := Lib.hid (heap_gr hgm P1.out (by omega))
              try replace B19 := Lib.hid (heap_gr hgm B19.out (by omega))
              clear Hm B20
              refine hK _ _ ⟨fun _ _ _ => hS0.trans (Fr.of_grown hgm) (fun i hi e => by injection e with e; omega), ?_⟩
              clear hK
              replace hS0 := hS0.trans (Fr.of_grown hgm) (fun i hi e => by injection e with e; omega)
              simp only [Act.put, List.setIfInBounds_toArray, List.set_cons_succ, List.set_cons_zero]
              refine os_move rfl rfl rfl (Nat.le_of_ble_eq_true rfl) ?_
              apply Exists.intro
              refine ⟨fun w' K hK => ?_, ?_⟩
              (focus
                go_simp
                exact hK)
              refine os_done ⟨rfl, ?_⟩
              go_wp2_with fail
              refine bodyPost_ret (v := .tuple #[.agg (bs pubK).toArray, .agg (bs pubN).toArray, .slice (some ⟨gh, 0, none⟩) 12 12, .slice (some ⟨gt, 0, none⟩) 114 114])
                (results_pub Try.results22 rfl rfl rfl rfl (run_loadVar_mid _ g0 0 23 (bs pubK) _ (range_block P0.out) uK.out rfl i1.out) (run_loadVar_mid _ g1 0 25 (bs pubN) _ (range_block P1.out) uN.out rfl i2.out)) rfl
                ⟨gh, gt, rfl, Sl.of_block B19.out rfl 12 rfl, Sl.of_block F20.out rfl 114 pubT_len, by omega, by omega, ?_⟩
              exact ((Fr.of_below (below_drewN X7.out.bel 1)).trans hS0 (fun i _ h => h)).to_below (fun i hi e => by rcases e with e | e <;> omega)
        · refine wp_mark 26 5 (.tmp 20) gt 114 114 (bs pubT).toArray rfl rfl B20.out uS uB ?_
          intro wm Hm hgm
          have F20 : Hid (wm.heap[gt]? = some (.cells (bs pubT).toArray 5 ((bs pubT).toArray.size, (bs pubT).toArray.size + 1))) := Hm
          try replace G0 := Lib.hid (heap_gr hgm G0.out (by omega))
          try replace G1 := Lib.hid (heap_gr hgm G1.out (by omega))
          try replace P0 := Lib.hid (heap_gr hgm P0.out (by omega))
          try replace P1 := Lib.hid (heap_gr hgm P1.out (by omega))
          try replace B19 := Lib.hid (heap_gr hgm B19.out (by omega))
          clear Hm B20
          refine hK _ _ ⟨fun _ _ _ => hS0.trans (Fr.of_grown hgm) (fun i hi e => by injection e with e; omega), ?_⟩
          clear hK
          replace hS0 := hS0.trans (Fr.of_grown hgm) (fun i hi e => by injection e with e; omega)
          simp only [Act.put, List.setIfInBounds_toArray, List.set_cons_succ, List.set_cons_zero]
          refine o3_os ?_
          refine os_two rfl rfl rfl rfl (fun K hK => ?_) (fun K hK => ?_)
          · refine wp_buildSlice_bytes 26 5 12 _ iB pubH rfl (by kernel_rfl) rfl (by decide) uS HiB.out HzB.out HsB.out ?_
            intro gh wh Eh Hh hbh
            have B19 : Hid (wh.heap[gh]? = some (.cells (bs pubH).toArray 5 (0, 0))) := Hh
            have e19 : w7.heap.size ≤ gh := by have := Eh.out; have := hS0.size; omega
            try have nht : gh ≠ gt := fun e => by have := (Array.getElem?_eq_some_iff.1 B20.out).1; have := Eh.out; have := hbh.size; omega
            try replace G0 := Lib.hid (heap_bel G0.out hbh)
            try replace G1 := Lib.hid (heap_bel G1.out hbh)
            try replace P0 := Lib.hid (heap_bel P0.out hbh)
            try replace P1 := Lib.hid (heap_bel P1.out hbh)
            try replace F20 := Lib.hid (heap_bel F20.out hbh)
            try replace B20 := Lib.hid (heap_bel B20.out hbh)
            clear Eh Hh
            refine hK _ _ ⟨fun _ _ h => Fr.tr h ((Fr.of_below (M := (fun j => j = g0 ∨ j = g1)) hbh)), ?_⟩
            clear hK
            replace hS0 := Fr.tr hS0 ((Fr.of_below (M := (fun j => j = g0 ∨ j = g1)) hbh))
            simp only [Act.put, List.setIfInBounds_toArray, List.set_cons_succ, List.set_cons_zero]
            refine os_run rfl rfl (fun K hK => ?_)
            refine wp_store_abs 23 (.tmp 0) (.tmp 17) rfl g0 23 _ (bs pubK).toArray rfl rfl G0.out (by simpa using i1.out) (by simp [bs_length, pubK_len]) (by simp; exact bs_oneCell _) ?_
            intro wk Hk hgk
            have P0 : Hid (wk.heap[g0]? = some (.cells (bs pubK).toArray 23 (0, 0))) := Hk
            try replace G1 := Lib.hid (heap_gr hgk G1.out (by omega))
            try replace P1 := Lib.hid (heap_gr hgk P1.out (by omega))
            try replace B19 := Lib.hid (heap_gr hgk B19.out (by omega))
            try replace B20 := Lib.hid (heap_gr hgk B20.out (by omega))
            try replace F20 := Lib.hid (heap_gr hgk F20.out (by omega))
            clear Hk G0
            refine hK _ _ ⟨fun _ _ h => Fr.tr h (((Fr.of_grown hgk).mono (fun j _ e => .inl (by injection e)))), ?_⟩
            clear hK
            replace hS0 := Fr.tr hS0 (((Fr.of_grown hgk).mono (fun j _ e => .inl (by injection e))))
            simp only [Act.put]
            refine os_run rfl rfl (fun K hK => ?_)
            refine wp_store_abs 25 (.tmp 1) (.tmp 18) rfl g1 25 _ (bs pubN).toArray rfl rfl G1.out (by simpa using i2.out) (by simp [bs_length, pubN]) (by simp; exact bs_oneCell _) ?_
            intro wn Hn hgn
            have P1 : Hid (wn.heap[g1]? = some (.cells (bs pubN).toArray 25 (0, 0))) := Hn
            try replace G0 := Lib.hid (heap_gr hgn G0.out (by omega))
            try replace P0 := Lib.hid (heap_gr hgn P0.out (by omega))
            try replace B19 := Lib.hid (heap_gr hgn B19.out (by omega))
            try replace B20 := Lib.hid (heap_gr hgn B20.out (by omega))
            try replace F20 := Lib.hid (heap_gr hgn F20.out (by omega))
            clear Hn G1
            refine hK _ _ ⟨fun _ hk => absurd hk List.not_mem_nil, ?_⟩
            clear hK
            replace hS0 := Fr.tr hS0 (((Fr.of_grown hgn).mono (fun j _ e => .inr (by injection e))))
            simp only [Act.put]
            refine os_move rfl rfl rfl (Nat.le_of_ble_eq_true rfl) ?_
            apply Exists.intro
            refine ⟨fun w' K hK => ?_, ?_⟩
            (focus
              go_simp
              exact hK)
            refine os_move rfl rfl rfl (Nat.le_of_ble_eq_true rfl) ?_
            apply Exists.intro
            refine ⟨fun w' K hK => ?_, ?_⟩
            (focus
              go_simp
              exact hK)
            refine os_done ⟨rfl, ?_⟩
            go_wp2_with fail
            refine bodyPost_ret (v := .tuple #[.agg (bs pubK).toArray, .agg (bs pubN).toArray, .slice (some ⟨gh, 0, none⟩) 12 12, .slice (some ⟨gt, 0, none⟩) 114 114])
              (results_pub Try.results22 rfl rfl rfl rfl (run_loadVar_mid _ g0 0 23 (bs pubK) _ (range_block P0.out) uK.out rfl i1.out) (run_loadVar_mid _ g1 0 25 (bs pubN) _ (range_block P1.out) uN.out rfl i2.out)) rfl
              ⟨gh, gt, rfl, Sl.of_block B19.out rfl 12 rfl, Sl.of_block F20.out rfl 114 pubT_len, by omega, by omega, ?_⟩
            exact ((Fr.of_below (below_drewN X7.out.bel 1)).trans hS0 (fun i _ h => h)).to_below (fun i hi e => by rcases e with e | e <;> omega)
          · refine wp_store_abs 23 (.tmp 0) (.tmp 17) rfl g0 23 _ (bs pubK).toArray rfl rfl G0.out (by simpa using i1.out) (by simp [bs_length, pubK_len]) (by simp; exact bs_oneCell _) ?_
            intro wk Hk hgk
            have P0 : Hid (wk.heap[g0]? = some (.cells (bs pubK).toArray 23 (0, 0))) := Hk
            try replace G1 := Lib.hid (heap_gr hgk G1.out (by omega))
            try replace P1 := Lib.hid (heap_gr hgk P1.out (by omega))
            try replace B19 := Lib.hid (heap_gr hgk B19.out (by omega))
            try replace B20 := Lib.hid (heap_gr hgk B20.out (by omega))
            try replace F20 := Lib.hid (heap_gr hgk F20.out (by omega))
            clear Hk G0
            refine hK _ _ ⟨fun _ _ h => Fr.tr h (((Fr.of_grown hgk).mono (fun j _ e => .inl (by injection e)))), ?_⟩
            clear hK
            replace hS0 := Fr.tr hS0 (((Fr.of_grown hgk).mono (fun j _ e => .inl (by injection e))))
            simp only [Act.put]
            refine os_two rfl rfl rfl rfl (fun K hK => ?_) (fun K hK => ?_)
            · refine wp_buildSlice_bytes 26 5 12 _ iB pubH rfl (by kernel_rfl) rfl (by decide) uS HiB.out HzB.out HsB.out ?_
              intro gh wh Eh Hh hbh
              have B19 : Hid (wh.heap[gh]? = some (.cells (bs pubH).toArray 5 (0, 0))) := Hh
              have e19 : w7.heap.size ≤ gh := by have := Eh.out; have := hS0.size; omega
              try have nht : gh ≠ gt := fun e => by have := (Array.getElem?_eq_some_iff.1 B20.out).1; have := Eh.out; have := hbh.size; omega
              try replace G0 := Lib.hid (heap_bel G0.out hbh)
              try replace G1 := Lib.hid (heap_bel G1.out hbh)
              try replace P0 := Lib.hid (heap_bel P0.out hbh)
              try replace P1 := Lib.hid (heap_bel P1.out hbh)
              try replace F20 := Lib.hid (heap_bel F20.out hbh)
              try replace B20 := Lib.hid (heap_bel B20.out hbh)
              clear Eh Hh
              refine hK _ _ ⟨fun _ _ h => Fr.tr h ((Fr.of_below (M := (fun j => j = g0 ∨ j = g1)) hbh)), ?_⟩
              clear hK
              replace hS0 := Fr.tr hS0 ((Fr.of_below (M := (fun j => j = g0 ∨ j = g1)) hbh))
              simp only [Act.put, List.setIfInBounds_toArray, List.set_cons_succ, List.set_cons_zero]
              refine os_run rfl rfl (fun K hK => ?_)
              refine wp_store_abs 25 (.tmp 1) (.tmp 18) rfl g1 25 _ (bs pubN).toArray rfl rfl G1.out (by simpa using i2.out) (by simp [bs_length, pubN]) (by simp; exact bs_oneCell _) ?_
              intro wn Hn hgn
              have P1 : Hid (wn.heap[g1]? = some (.cells (bs pubN).toArray 25 (0, 0))) := Hn
              try replace G0 := Lib.hid (heap_gr hgn G0.out (by omega))
              try replace P0 := Lib.hid (heap_gr hgn P0.out (by omega))
              try replace B19 := Lib.hid (heap_gr hgn B19.out (by omega))
              try replace B20 := Lib.hid (heap_gr hgn B20.out (by omega))
              try replace F20 := Lib.hid (heap_gr hgn F20.out (by omega))
              clear Hn G1
              refine hK _ _ ⟨fun _ hk => absurd hk List.not_mem_nil, ?_⟩
              clear hK
              replace hS0 := Fr.tr hS0 (((Fr.of_grown hgn).mono (fun j _ e => .inr (by injection e))))
              simp only [Act.put]
              refine os_move rfl rfl rfl (Nat.le_of_ble_eq_true rfl) ?_
              apply Exists.intro
              refine ⟨fun w' K hK => ?_, ?_⟩
              (focus
                go_simp
                exact hK)
              refine os_move rfl rfl rfl (Nat.le_of_ble_eq_true rfl) ?_
              apply Exists.intro
              refine ⟨fun w' K hK => ?_, ?_⟩
              (focus
                go_simp
                exact hK)
              refine os_done ⟨rfl, ?_⟩
              go_wp2_with fail
              refine bodyPost_ret (v := .tuple #[.agg (bs pubK).toArray, .agg (bs pubN).toArray, .slice (some ⟨gh, 0, none⟩) 12 12, .slice (some ⟨gt, 0, none⟩) 114 114])
                (results_pub Try.results22 rfl rfl rfl rfl (run_loadVar_mid _ g0 0 23 (bs pubK) _ (range_block P0.out) uK.out rfl i1.out) (run_loadVar_mid _ g1 0 25 (bs pubN) _ (range_block P1.out) uN.out rfl i2.out)) rfl
                ⟨gh, gt, rfl, Sl.of_block B19.out rfl 12 rfl, Sl.of_block F20.out rfl 114 pubT_len, by omega, by omega, ?_⟩
              exact ((Fr.of_below (below_drewN X7.out.bel 1)).trans hS0 (fun i _ h => h)).to_below (fun i hi e => by rcases e with e | e <;> omega)
            · refine wp_store_abs 25 (.tmp 1) (.tmp 18) rfl g1 25 _ (bs pubN).toArray rfl rfl G1.out (by simpa using i2.out) (by simp [bs_length, pubN]) (by simp; exact bs_oneCell _) ?_
              intro wn Hn hgn
              have P1 : Hid (wn.heap[g1]? = some (.cells (bs pubN).toArray 25 (0, 0))) := Hn
              try replace G0 := Lib.hid (heap_gr hgn G0.out (by omega))
              try replace P0 := Lib.hid (heap_gr hgn P0.out (by omega))
              try replace B19 := Lib.hid (heap_gr hgn B19.out (by omega))
              try replace B20 := Lib.hid (heap_gr hgn B20.out (by omega))
              try replace F20 := Lib.hid (heap_gr hgn F20.out (by omega))
              clear Hn G1
              refine hK _ _ ⟨fun _ hk => absurd hk List.not_mem_nil, ?_⟩
              clear hK
              replace hS0 := Fr.tr hS0 (((Fr.of_grown hgn).mono (fun j _ e => .inr (by injection e))))
              simp only [Act.put]
              refine os_run rfl rfl (fun K hK => ?_)
              refine wp_buildSlice_bytes 26 5 12 _ iB pubH rfl (by kernel_rfl) rfl (by decide) uS HiB.out HzB.out HsB.out ?_
              intro gh wh Eh Hh hbh
              have B19 : Hid (wh.heap[gh]? = some (.cells (bs pubH).toArray 5 (0, 0))) := Hh
              have e19 : w7.heap.size ≤ gh := by have := Eh.out; have := hS0.size; omega
              try have nht : gh ≠ gt := fun e => by have := (Array.getElem?_eq_some_iff.1 B20.out).1; have := Eh.out; have := hbh.size; omega
              try replace G0 := Lib.hid (heap_bel G0.out hbh)
              try replace G1 := Lib.hid (heap_bel G1.out hbh)
              try replace P0 := Lib.hid (heap_bel P0.out hbh)
              try replace P1 := Lib.hid (heap_bel P1.out hbh)
              try replace F20 := Lib.hid (heap_bel F20.out hbh)
              try replace B20 := Lib.hid (heap_bel B20.out hbh)
              clear Eh Hh
              refine hK _ _ ⟨fun _ _ h => Fr.tr h ((Fr.of_below (M := (fun j => j = g0 ∨ j = g1)) hbh)), ?_⟩
              clear hK
              replace hS0 := Fr.tr hS0 ((Fr.of_below (M := (fun j => j = g0 ∨ j = g1)) hbh))
              simp only [Act.put, List.setIfInBounds_toArray, List.set_cons_succ, List.set_cons_zero]
              refine os_move rfl rfl rfl (Nat.le_of_ble_eq_true rfl) ?_
              apply Exists.intro
              refine ⟨fun w' K hK => ?_, ?_⟩
              (focus
                go_simp
                exact hK)
              refine os_move rfl rfl rfl (Nat.le_of_ble_eq_true rfl) ?_
              apply Exists.intro
              refine ⟨fun w' K hK => ?_, ?_⟩
              (focus
                go_simp
                exact hK)
              refine os_done ⟨rfl, ?_⟩
              go_wp2_with fail
              refine bodyPost_ret (v := .tuple #[.agg (bs pubK).toArray, .agg (bs pubN).toArray, .slice (some ⟨gh, 0, none⟩) 12 12, .slice (some ⟨gt, 0, none⟩) 114 114])
                (results_pub Try.results22 rfl rfl rfl rfl (run_loadVar_mid _ g0 0 23 (bs pubK) _ (range_block P0.out) uK.out rfl i1.out) (run_loadVar_mid _ g1 0 25 (bs pubN) _ (range_block P1.out) uN.out rfl i2.out)) rfl
                ⟨gh, gt, rfl, Sl.of_block B19.out rfl 12 rfl, Sl.of_block F20.out rfl 114 pubT_len, by omega, by omega, ?_⟩
              exact ((Fr.of_below (below_drewN X7.out.bel 1)).trans hS0 (fun i _ h => h)).to_below (fun i hi e => by rcases e with e | e <;> omega)
        · refine wp_store_abs 23 (.tmp 0) (.tmp 17) rfl g0 23 _ (bs pubK).toArray rfl rfl G0.out (by simpa using i1.out) (by simp [bs_length, pubK_len]) (by simp; exact bs_oneCell _) ?_
          intro wk Hk hgk
          have P0 : Hid (wk.heap[g0]? = some (.cells (bs pubK).toArray 23 (0, 0))) := Hk
          try replace G1 := Lib.hid (heap_gr hgk G1.out (by omega))
          try replace P1 := Lib.hid (heap_gr hgk P1.out (by omega))
          try replace B19 := Lib.hid (heap_gr hgk B19.out (by omega))
          try replace B20 := Lib.hid (heap_gr hgk B20.out (by omega))
          try replace F20 := Lib.hid (heap_gr hgk F20.out (by omega))
          clear Hk G0
          refine hK _ _ ⟨fun _ _ h => Fr.tr h (((Fr.of_grown hgk).mono (fun j _ e => .inl (by injection e)))), ?_⟩
          clear hK
          replace hS0 := Fr.tr hS0 (((Fr.of_grown hgk).mono (fun j _ e => .inl (by injection e))))
          simp only [Act.put]
          refine o3_three rfl rfl rfl rfl rfl rfl (fun K hK => ?_) (fun K hK => ?_) (fun K hK => ?_)
          · refine wp_buildSlice_bytes 26 5 12 _ iB pubH rfl (by kernel_rfl) rfl (by decide) uS HiB.out HzB.out HsB.out ?_
            intro gh wh Eh Hh hbh
            have B19 : Hid (wh.heap[gh]? = some (.cells (bs pubH).toArray 5 (0, 0))) := Hh
            have e19 : w7.heap.size ≤ gh := by have := Eh.out; have := hS0.size; omega
            try have nht : gh ≠ gt := fun e => by have := (Array.getElem?_eq_some_iff.1 B20.out).1; have := Eh.out; have := hbh.size; omega
            try replace G0 := Lib.hid (heap_bel G0.out hbh)
            try replace G1 := Lib.hid (heap_bel G1.out hbh)
            try replace P0 := Lib.hid (heap_bel P0.out hbh)
            try replace P1 := Lib.hid (heap_bel P1.out hbh)
            try replace F20 := Lib.hid (heap_bel F20.out hbh)
            try replace B20 := Lib.hid (heap_bel B20.out hbh)
            clear Eh Hh
            refine hK _ _ ⟨fun _ _ h => Fr.tr h ((Fr.of_below (M := (fun j => j = g0 ∨ j = g1)) hbh)), ?_⟩
            clear hK
            replace hS0 := Fr.tr hS0 ((Fr.of_below (M := (fun j => j = g0 ∨ j = g1)) hbh))
            simp only [Act.put, List.setIfInBounds_toArray, List.set_cons_succ, List.set_cons_zero]
            refine o3_os ?_
            refine os_two rfl rfl rfl rfl (fun K hK => ?_) (fun K hK => ?_)
            · refine wp_mark 26 5 (.tmp 20) gt 114 114 (bs pubT).toArray rfl rfl B20.out uS uB ?_
              intro wm Hm hgm
              have F20 : Hid (wm.heap[gt]? = some (.cells (bs pubT).toArray 5 ((bs pubT).toArray.size, (bs pubT).toArray.size + 1))) := Hm
              try replace G0 := Lib.hid (heap_gr hgm G0.out (by omega))
              try replace G1 := Lib.hid (heap_gr hgm G1.out (by omega))
              try replace P0 := Lib.hid (heap_gr hgm P0.out (by omega))
              try replace P1 := Lib.hid (heap_gr hgm P1.out (by omega))
              try replace B19 := Lib.hid (heap_gr hgm B19.out (by omega))
              clear Hm B20
              refine hK _ _ ⟨fun _ _ _ => hS0.trans (Fr.of_grown hgm) (fun i hi e => by injection e with e; omega), ?_⟩
              clear hK
              replace hS0 := hS0.trans (Fr.of_grown hgm) (fun i hi e => by injection e with e; omega)
              simp only [Act.put, List.setIfInBounds_toArray, List.set_cons_succ, List.set_cons_zero]
              refine os_run rfl rfl (fun K hK => ?_)
              refine wp_store_abs 25 (.tmp 1) (.tmp 18) rfl g1 25 _ (bs pubN).toArray rfl rfl G1.out (by simpa using i2.out) (by simp [bs_length, pubN]) (by simp; exact bs_oneCell _) ?_
              intro wn Hn hgn
              have P1 : Hid (wn.heap[g1]? = some (.cells (bs pubN).toArray 25 (0, 0))) := Hn
              try replace G0 := Lib.hid (heap_gr hgn G0.out (by omega))
              try replace P0 := Lib.hid (heap_gr hgn P0.out (by omega))
              try replace B19 := Lib.hid (heap_gr hgn B19.out (by omega))
              try replace B20 := Lib.hid (heap_gr hgn B20.out (by omega))
              try replace F20 := Lib.hid (heap_gr hgn F20.out (by omega))
              clear Hn G1
              refine hK _ _ ⟨fun _ hk => absurd hk List.not_mem_nil, ?_⟩
              clear hK
              replace hS0 := Fr.tr hS0 (((Fr.of_grown hgn).mono (fun j _ e => .inr (by injection e))))
              simp only [Act.put]
              refine os_move rfl rfl rfl (Nat.le_of_ble_eq_true rfl) ?_
              apply Exists.intro
              refine ⟨fun w' K hK => ?_, ?_⟩
              (focus
                go_simp
                exact hK)
              refine os_move rfl rfl rfl (Nat.le_of_ble_eq_true rfl) ?_
              apply Exists.intro
              refine ⟨fun w' K hK => ?_, ?_⟩
              (focus
                go_simp
                exact hK)
              refine os_done ⟨rfl, ?_⟩
              go_wp2_with fail
              refine bodyPost_ret (v := .tuple #[.agg (bs pubK).toArray, .agg (bs pubN).toArray, .slice (some ⟨gh, 0, none⟩) 12 12, .slice (some ⟨gt, 0, none⟩) 114 114])
                (results_pub Try.results22 rfl rfl rfl rfl (run_loadVar_mid _ g0 0 23 (bs pubK) _ (range_block P0.out) uK.out rfl i1.out) (run_loadVar_mid _ g1 0 25 (bs pubN) _ (range_block P1.out) uN.out rfl i2.out)) rfl
                ⟨gh, gt, rfl, Sl.of_block B19.out rfl 12 rfl, Sl.of_block F20.out rfl 114 pubT_len, by omega, by omega, ?_⟩
              exact ((Fr.of_below (below_drewN X7.out.bel 1)).trans hS0 (fun i _ h => h)).to_below (fun i hi e => by rcases e with e | e <;> omega)
            · refine wp_store_abs 25 (.tmp 1) (.tmp 18) rfl g1 25 _ (bs pubN).toArray rfl rfl G1.out (by simpa using i2.out) (by simp [bs_length, pubN]) (by simp; exact bs_oneCell _) ?_
              intro wn Hn hgn
              have P1 : Hid (wn.heap[g1]? = some (.cells (bs pubN).toArray 25 (0, 0))) := Hn
              try replace G0 := Lib.hid (heap_gr hgn G0.out (by omega))
              try replace P0 := Lib.hid (heap_gr hgn P0.out (by omega))
              try replace B19 := Lib.hid (heap_gr hgn B19.out (by omega))
              try replace B20 := Lib.hid (heap_gr hgn B20.out (by omega))
              try replace F20 := Lib.hid (heap_gr hgn F20.out (by omega))
              clear Hn G1
              refine hK _ _ ⟨fun _ hk => absurd hk List.not_mem_nil, ?_⟩
              clear hK
              replace hS0 := Fr.tr hS0 (((Fr.of_grown hgn).mono (fun j _ e => .inr (by injection e))))
              simp only [Act.put]
              refine os_move rfl rfl rfl (Nat.le_of_ble_eq_true rfl) ?_
              apply Exists.intro
              refine ⟨fun w' K hK => ?_, ?_⟩
              (focus
                go_simp
                exact hK)
              refine os_run rfl rfl (fun K hK => ?_)
              refine wp_mark 26 5 (.tmp 20) gt 114 114 (bs pubT).toArray rfl rfl B20.out uS uB ?_
              intro wm Hm hgm
              have F20 : Hid (wm.heap[gt]? = some (.cells (bs pubT).toArray 5 ((bs pubT).toArray.size, (bs pubT).toArray.size + 1))) := Hm
              try replace G0 := Lib.hid (heap_gr hgm G0.out (by omega))
              try replace G1 := Lib.hid (heap_gr hgm G1.out (by omega))
              try replace P0 := Lib.hid (heap_gr hgm P0.out (by omega))
              try replace P1 := Lib.hid (heap_gr hgm P1.out (by omega))
              try replace B19 := Lib.hid (heap_gr hgm B19.out (by omega))
              clear Hm B20
              refine hK _ _ ⟨fun _ _ _ => hS0.trans (Fr.of_grown hgm) (fun i hi e => by injection e with e; omega), ?_⟩
              clear hK
              replace hS0 := hS0.trans (Fr.of_grown hgm) (fun i hi e => by injection e with e; omega)
              simp only [Act.put, List.setIfInBounds_toArray, List.set_cons_succ, List.set_cons_zero]
              refine os_move rfl rfl rfl (Nat.le_of_ble_eq_true rfl) ?_
              apply Exists.intro
              refine ⟨fun w' K hK => ?_, ?_⟩
              (focus
                go_simp
                exact hK)
              refine os_done ⟨rfl, ?_⟩
              go_wp2_with fail
              refine bodyPost_ret (v := .tuple #[.agg (bs pubK).toArray, .agg (bs pubN).toArray, .slice (some ⟨gh, 0, none⟩) 12 12, .slice (some ⟨gt, 0, none⟩) 114 114])
                (results_pub Try.results22 rfl rfl rfl rfl (run_loadVar_mid _ g0 0 23 (bs pubK) _ (range_block P0.out) uK.out rfl i1.out) (run_loadVar_mid _ g1 0 25 (bs pubN) _ (range_block P1.out) uN.out rfl i2.out)) rfl
                ⟨gh, gt, rfl, Sl.of_block B19.out rfl 12 rfl, Sl.of_block F20.out rfl 114 pubT_len, by omega, by omega, ?_⟩
              exact ((Fr.of_below (below_drewN X7.out.bel 1)).trans hS0 (fun i _ h => h)).to_below (fun i hi e => by rcases e with e | e <;> omega)
          · refine wp_mark 26 5 (.tmp 20) gt 114 114 (bs pubT).toArray rfl rfl B20.out uS uB ?_
            intro wm Hm hgm
            have F20 : Hid (wm.heap[gt]? = some (.cells (bs pubT).toArray 5 ((bs pubT).toArray.size, (bs pubT).toArray.size + 1))) := Hm
            try replace G0 := Lib.hid (heap_gr hgm G0.out (by omega))
            try replace G1 := Lib.hid (heap_gr hgm G1.out (by omega))
            try replace P0 := Lib.hid (heap_gr hgm P0.out (by omega))
            try replace P1 := Lib.hid (heap_gr hgm P1.out (by omega))
            try replace B19 := Lib.hid (heap_gr hgm B19.out (by omega))
            clear Hm B20
            refine hK _ _ ⟨fun _ _ _ => hS0.trans (Fr.of_grown hgm) (fun i hi e => by injection e with e; omega), ?_⟩
            clear hK
            replace hS0 := hS0.trans (Fr.of_grown hgm) (fun i hi e => by injection e with e; omega)
            simp only [Act.put, List.setIfInBounds_toArray, List.set_cons_succ, List.set_cons_zero]
            refine o3_os ?_
            refine os_two rfl rfl rfl rfl (fun K hK => ?_) (fun K hK => ?_)
            · refine wp_buildSlice_bytes 26 5 12 _ iB pubH rfl (by kernel_rfl) rfl (by decide) uS HiB.out HzB.out HsB.out ?_
              intro gh wh Eh Hh hbh
              have B19 : Hid (wh.heap[gh]? = some (.cells (bs pubH).toArray 5 (0, 0))) := Hh
              have e19 : w7.heap.size ≤ gh := by have := Eh.out; have := hS0.size; omega
              try have nht : gh ≠ gt := fun e => by have := (Array.getElem?_eq_some_iff.1 B20.out).1; have := Eh.out; have := hbh.size; omega
              try replace G0 := Lib.hid (heap_bel G0.out hbh)
              try replace G1 := Lib.hid (heap_bel G1.out hbh)
              try replace P0 := Lib.hid (heap_bel P0.out hbh)
              try replace P1 := Lib.hid (heap_bel P1.out hbh)
              try replace F20 := Lib.hid (heap_bel F20.out hbh)
              try replace B20 := Lib.hid (heap_bel B20.out hbh)
              clear Eh Hh
              refine hK _ _ ⟨fun _ _ h => Fr.tr h ((Fr.of_below (M := (fun j => j = g0 ∨ j = g1)) hbh)), ?_⟩
              clear hK
              replace hS0 := Fr.tr hS0 ((Fr.of_below (M := (fun j => j = g0 ∨ j = g1)) hbh))
              simp only [Act.put, List.setIfInBounds_toArray, List.set_cons_succ, List.set_cons_zero]
              refine os_run rfl rfl (fun K hK => ?_)
              refine wp_store_abs 25 (.tmp 1) (.tmp 18) rfl g1 25 _ (bs pubN).toArray rfl rfl G1.out (by simpa using i2.out) (by simp [bs_length, pubN]) (by simp; exact bs_oneCell _) ?_
              intro wn Hn hgn
              have P1 : Hid (wn.heap[g1]? = some (.cells (bs pubN).toArray 25 (0, 0))) := Hn
              try replace G0 := Lib.hid (heap_gr hgn G0.out (by omega))
              try replace P0 := Lib.hid (heap_gr hgn P0.out (by omega))
              try replace B19 := Lib.hid (heap_gr hgn B19.out (by omega))
              try replace B20 := Lib.hid (heap_gr hgn B20.out (by omega))
              try replace F20 := Lib.hid (heap_gr hgn F20.out (by omega))
              clear Hn G1
              refine hK _ _ ⟨fun _ hk => absurd hk List.not_mem_nil, ?_⟩
              clear hK
              replace hS0 := Fr.tr hS0 (((Fr.of_grown hgn).mono (fun j _ e => .inr (by injection e))))
              simp only [Act.put]
              refine os_move rfl rfl rfl (Nat.le_of_ble_eq_true rfl) ?_
              apply Exists.intro
              refine ⟨fun w' K hK => ?_, ?_⟩
              (focus
                go_simp
                exact hK)
              refine os_move rfl rfl rfl (Nat.le_of_ble_eq_true rfl) ?_
              apply Exists.intro
              refine ⟨fun w' K hK => ?_, ?_⟩
              (focus
                go_simp
                exact hK)
              refine os_done ⟨rfl, ?_⟩
              go_wp2_with fail
              refine bodyPost_ret (v := .tuple #[.agg (bs pubK).toArray, .agg (bs pubN).toArray, .slice (some ⟨gh, 0, none⟩) 12 12, .slice (some ⟨gt, 0, none⟩) 114 114])
                (results_pub Try.results22 rfl rfl rfl rfl (run_loadVar_mid _ g0 0 23 (bs pubK) _ (range_block P0.out) uK.out rfl i1.out) (run_loadVar_mid _ g1 0 25 (bs pubN) _ (range_block P1.out) uN.out rfl i2.out)) rfl
                ⟨gh, gt, rfl, Sl.of_block B19.out rfl 12 rfl, Sl.of_block F20.out rfl 114 pubT_len, by omega, by omega, ?_⟩
              exact ((Fr.of_below (below_drewN X7.out.bel 1)).trans hS0 (fun i _ h => h)).to_below (fun i hi e => by rcases e with e | e <;> omega)
            · refine wp_store_abs 25 (.tmp 1) (.tmp 18) rfl g1 25 _ (bs pubN).toArray rfl rfl G1.out (by simpa using i2.out) (by simp [bs_length, pubN]) (by simp; exact bs_oneCell _) ?_
              intro wn Hn hgn
              have P1 : Hid (wn.heap[g1]? = some (.cells (bs pubN).toArray 25 (0, 0))) := Hn
              try replace G0 := Lib.hid (heap_gr hgn G0.out (by omega))
              try replace P0 := Lib.hid (heap_gr hgn P0.out (by omega))
              try replace B19 := Lib.hid (heap_gr hgn B19.out (by omega))
              try replace B20 := Lib.hid (heap_gr hgn B20.out (by omega))
              try replace F20 := Lib.hid (heap_gr hgn F20.out (by omega))
              clear Hn G1
              refine hK _ _ ⟨fun _ hk => absurd hk List.not_mem_nil, ?_⟩
              clear hK
              replace hS0 := Fr.tr hS0 (((Fr.of_grown hgn).mono (fun j _ e => .inr (by injection e))))
              simp only [Act.put]
              refine os_run rfl rfl (fun K hK => ?_)
              refine wp_buildSlice_bytes 26 5 12 _ iB pubH rfl (by kernel_rfl) rfl (by decide) uS HiB.out HzB.out HsB.out ?_
              intro gh wh Eh Hh hbh
              have B19 : Hid (wh.heap[gh]? = some (.cells (bs pubH).toArray 5 (0, 0))) := Hh
              have e19 : w7.heap.size ≤ gh := by have := Eh.out; have := hS0.size; omega
              try have nht : gh ≠ gt := fun e => by have := (Array.getElem?_eq_some_iff.1 B20.out).1; have := Eh.out; have := hbh.size; omega
              try replace G0 := Lib.hid (heap_bel G0.out hbh)
              try replace G1 := Lib.hid (heap_bel G1.out hbh)
              try replace P0 := Lib.hid (heap_bel P0.out hbh)
              try replace P1 := Lib.hid (heap_bel P1.out hbh)
              try replace F20 := Lib.hid (heap_bel F20.out hbh)
              try replace B20 := Lib.hid (heap_bel B20.out hbh)
              clear Eh Hh
              refine hK _ _ ⟨fun _ _ h => Fr.tr h ((Fr.of_below (M := (fun j => j = g0 ∨ j = g1)) hbh)), ?_⟩
              clear hK
              replace hS0 := Fr.tr hS0 ((Fr.of_below (M := (fun j => j = g0 ∨ j = g1)) hbh))
              simp only [Act.put, List.setIfInBounds_toArray, List.set_cons_succ, List.set_cons_zero]
              refine os_move rfl rfl rfl (Nat.le_of_ble_eq_true rfl) ?_
              apply Exists.intro
              refine ⟨fun w' K hK => ?_, ?_⟩
              (focus
                go_simp
                exact hK)
              refine os_move rfl rfl rfl (Nat.le_of_ble_eq_true rfl) ?_
              apply Exists.intro
              refine ⟨fun w' K hK => ?_, ?_⟩
              (focus
                go_simp
                exact hK)
              refine os_done ⟨rfl, ?_⟩
              go_wp2_with fail
              refine bodyPost_ret (v := .tuple #[.agg (bs pubK).toArray, .agg (bs pubN).toArray, .slice (some ⟨gh, 0, none⟩) 12 12, .slice (some ⟨gt, 0, none⟩) 114 114])
                (results_pub Try.results22 rfl rfl rfl rfl (run_loadVar_mid _ g0 0 23 (bs pubK) _ (range_block P0.out) uK.out rfl i1.out) (run_loadVar_mid _ g1 0 25 (bs pubN) _ (range_block P1.out) uN.out rfl i2.out)) rfl
                ⟨gh, gt, rfl, Sl.of_block B19.out rfl 12 rfl, Sl.of_block F20.out rfl 114 pubT_len, by omega, by omega, ?_⟩
              exact ((Fr.of_below (below_drewN X7.out.bel 1)).trans hS0 (fun i _ h => h)).to_below (fun i hi e => by rcases e with e | e <;> omega)
          · refine wp_store_abs 25 (.tmp 1) (.tmp 18) rfl g1 25 _ (bs pubN).toArray rfl rfl G1.out (by simpa using i2.out) (by simp [bs_length, pubN]) (by simp; exact bs_oneCell _) ?_
            intro wn Hn hgn
            have P1 : Hid (wn.heap[g1]? = some (.cells (bs pubN).toArray 25 (0, 0))) := Hn
            try replace G0 := Lib.hid (heap_gr hgn G0.out (by omega))
            try replace P0 := Lib.hid (heap_gr hgn P0.out (by omega))
            try replace B19 := Lib.hid (heap_gr hgn B19.out (by omega))
            try replace B20 := Lib.hid (heap_gr hgn B20.out (by omega))
            try replace F20 := Lib.hid (heap_gr hgn F20.out (by omega))
            clear Hn G1
            refine hK _ _ ⟨fun _ hk => absurd hk List.not_mem_nil, ?_⟩
            clear hK
            replace hS0 := Fr.tr hS0 (((Fr.of_grown hgn).mono (fun j _ e => .inr (by injection e))))
            simp only [Act.put]
            refine o3_os ?_
            refine os_two rfl rfl rfl rfl (fun K hK => ?_) (fun K hK => ?_)
            · refine wp_buildSlice_bytes 26 5 12 _ iB pubH rfl (by kernel_rfl) rfl (by decide) uS HiB.out HzB.out HsB.out ?_
              intro gh wh Eh Hh hbh
              have B19 : Hid (wh.heap[gh]? = some (.cells (bs pubH).toArray 5 (0, 0))) := Hh
              have e19 : w7.heap.size ≤ gh := by have := Eh.out; have := hS0.size; omega
              try have nht : gh ≠ gt := fun e => by have := (Array.getElem?_eq_some_iff.1 B20.out).1; have := Eh.out; have := hbh.size; omega
              try replace G0 := Lib.hid (heap_bel G0.out hbh)
              try replace G1 := Lib.hid (heap_bel G1.out hbh)
              try replace P0 := Lib.hid (heap_bel P0.out hbh)
              try replace P1 := Lib.hid (heap_bel P1.out hbh)
              try replace F20 := Lib.hid (heap_bel F20.out hbh)
              try replace B20 := Lib.hid (heap_bel B20.out hbh)
              clear Eh Hh
              refine hK _ _ ⟨fun _ _ h => Fr.tr h ((Fr.of_below (M := (fun j => j = g0 ∨ j = g1)) hbh)), ?_⟩
              clear hK
              replace hS0 := Fr.tr hS0 ((Fr.of_below (M := (fun j => j = g0 ∨ j = g1)) hbh))
              simp only [Act.put, List.setIfInBounds_toArray, List.set_cons_succ, List.set_cons_zero]
              refine os_move rfl rfl rfl (Nat.le_of_ble_eq_true rfl) ?_
              apply Exists.intro
              refine ⟨fun w' K hK => ?_, ?_⟩
              (focus
                go_simp
                exact hK)
              refine os_run rfl rfl (fun K hK => ?_)
              refine wp_mark 26 5 (.tmp 20) gt 114 114 (bs pubT).toArray rfl rfl B20.out uS uB ?_
              intro wm Hm hgm
              have F20 : Hid (wm.heap[gt]? = some (.cells (bs pubT).toArray 5 ((bs pubT).toArray.size, (bs pubT).toArray.size + 1))) := Hm
              try replace G0 := Lib.hid (heap_gr hgm G0.out (by omega))
              try replace G1 := Lib.hid (heap_gr hgm G1.out (by omega))
              try replace P0 := Lib.hid (heap_gr hgm P0.out (by omega))
              try replace P1 := Lib.hid (heap_gr hgm P1.out (by omega))
              try replace B19 := Lib.hid (heap_gr hgm B19.out (by omega))
              clear Hm B20
              refine hK _ _ ⟨fun _ _ _ => hS0.trans (Fr.of_grown hgm) (fun i hi e => by injection e with e; omega), ?_⟩
              clear hK
              replace hS0 := hS0.trans (Fr.of_grown hgm) (fun i hi e => by injection e with e; omega)
              simp only [Act.put, List.setIfInBounds_toArray, List.set_cons_succ, List.set_cons_zero]
              refine os_move rfl rfl rfl (Nat.le_of_ble_eq_true rfl) ?_
              apply Exists.intro
              refine ⟨fun w' K hK => ?_, ?_⟩
              (focus
                go_simp
                exact hK)
              refine os_done ⟨rfl, ?_⟩
              go_wp2_with fail
              refine bodyPost_ret (v := .tuple #[.agg (bs pubK).toArray, .agg (bs pubN).toArray, .slice (some ⟨gh, 0, none⟩) 12 12, .slice (some ⟨gt, 0, none⟩) 114 114])
                (results_pub Try.results22 rfl rfl rfl rfl (run_loadVar_mid _ g0 0 23 (bs pubK) _ (range_block P0.out) uK.out rfl i1.out) (run_loadVar_mid _ g1 0 25 (bs pubN) _ (range_block P1.out) uN.out rfl i2.out)) rfl
                ⟨gh, gt, rfl, Sl.of_block B19.out rfl 12 rfl, Sl.of_block F20.out rfl 114 pubT_len, by omega, by omega, ?_⟩
              exact ((Fr.of_below (below_drewN X7.out.bel 1)).trans hS0 (fun i _ h => h)).to_below (fun i hi e => by rcases e with e | e <;> omega)
            · refine wp_mark 26 5 (.tmp 20) gt 114 114 (bs pubT).toArray rfl rfl B20.out uS uB ?_
              intro wm Hm hgm
              have F20 : Hid (wm.heap[gt]? = some (.cells (bs pubT).toArray 5 ((bs pubT).toArray.size, (bs pubT).toArray.size + 1))) := Hm
              try replace G0 := Lib.hid (heap_gr hgm G0.out (by omega))
              try replace G1 := Lib.hid (heap_gr hgm G1.out (by omega))
              try replace P0 := Lib.hid (heap_gr hgm P0.out (by omega))
              try replace P1 := Lib.hid (heap_gr hgm P1.out (by omega))
              try replace B19 := Lib.hid (heap_gr hgm B19.out (by omega))
              clear Hm B20
              refine hK _ _ ⟨fun _ _ _ => hS0.trans (Fr.of_grown hgm) (fun i hi e => by injection e with e; omega), ?_⟩
              clear hK
              replace hS0 := hS0.trans (Fr.of_grown hgm) (fun i hi e => by injection e with e; omega)
              simp only [Act.put, List.setIfInBounds_toArray, List.set_cons_succ, List.set_cons_zero]
              refine os_run rfl rfl (fun K hK => ?_)
              refine wp_buildSlice_bytes 26 5 12 _ iB pubH rfl (by kernel_rfl) rfl (by decide) uS HiB.out HzB.out HsB.out ?_
              intro gh wh Eh Hh hbh
              have B19 : Hid (wh.heap[gh]? = some (.cells (bs pubH).toArray 5 (0, 0))) := Hh
              have e19 : w7.heap.size ≤ gh := by have := Eh.out; have := hS0.size; omega
              try have nht : gh ≠ gt := fun e => by have := (Array.getElem?_eq_some_iff.1 B20.out).1; have := Eh.out; have := hbh.size; omega
              try replace G0 := Lib.hid (heap_bel G0.out hbh)
              try replace G1 := Lib.hid (heap_bel G1.out hbh)
              try replace P0 := Lib.hid (heap_bel P0.out hbh)
              try replace P1 := Lib.hid (heap_bel P1.out hbh)
              try replace F20 := Lib.hid (heap_bel F20.out hbh)
              try replace B20 := Lib.hid (heap_bel B20.out hbh)
              clear Eh Hh
              refine hK _ _ ⟨fun _ _ h => Fr.tr h ((Fr.of_below (M := (fun j => j = g0 ∨ j = g1)) hbh)), ?_⟩
              clear hK
              replace hS0 := Fr.tr hS0 ((Fr.of_below (M := (fun j => j = g0 ∨ j = g1)) hbh))
              simp only [Act.put, List.setIfInBounds_toArray, List.set_cons_succ, List.set_cons_zero]
              refine os_move rfl rfl rfl (Nat.le_of_ble_eq_true rfl) ?_
              apply Exists.intro
              refine ⟨fun w' K hK => ?_, ?_⟩
              (focus
                go_simp
                exact hK)
              refine os_move rfl rfl rfl (Nat.le_of_ble_eq_true rfl) ?_
              apply Exists.intro
              refine ⟨fun w' K hK => ?_, ?_⟩
              (focus
                go_simp
                exact hK)
              refine os_done ⟨rfl, ?_⟩
              go_wp2_with fail
              refine bodyPost_ret (v := .tuple #[.agg (bs pubK).toArray, .agg (bs pubN).toArray, .slice (some ⟨gh, 0, none⟩) 12 12, .slice (some ⟨gt, 0, none⟩) 114 114])
                (results_pub Try.results22 rfl rfl rfl rfl (run_loadVar_mid _ g0 0 23 (bs pubK) _ (range_block P0.out) uK.out rfl i1.out) (run_loadVar_mid _ g1 0 25 (bs pubN) _ (range_block P1.out) uN.out rfl i2.out)) rfl
                ⟨gh, gt, rfl, Sl.of_block B19.out rfl 12 rfl, Sl.of_block F20.out rfl 114 pubT_len, by omega, by omega, ?_⟩
              exact ((Fr.of_below (below_drewN X7.out.bel 1)).trans hS0 (fun i _ h => h)).to_below (fun i hi e => by rcases e with e | e <;> omega)
      · refine wp_store_abs 23 (.tmp 0) (.tmp 17) rfl g0 23 _ (bs pubK).toArray rfl rfl G0.out (by simpa using i1.out) (by simp [bs_length, pubK_len]) (by simp; exact bs_oneCell _) ?_
        intro wk Hk hgk
        have P0 : Hid (wk.heap[g0]? = some (.cells (bs pubK).toArray 23 (0, 0))) := Hk
        try replace G1 := Lib.hid (heap_gr hgk G1.out (by omega))
        try replace P1 := Lib.hid (heap_gr hgk P1.out (by omega))
        try replace B19 := Lib.hid (heap_gr hgk B19.out (by omega))
        try replace B20 := Lib.hid (heap_gr hgk B20.out (by omega))
        try replace F20 := Lib.hid (heap_gr hgk F20.out (by omega))
        clear Hk G0
        refine hK _ _ ⟨fun _ _ h => Fr.tr h (((Fr.of_grown hgk).mono (fun j _ e => .inl (by injection e)))), ?_⟩
        clear hK
        replace hS0 := Fr.tr hS0 (((Fr.of_grown hgk).mono (fun j _ e => .inl (by injection e))))
        simp only [Act.put]
        refine o3_three rfl rfl rfl rfl rfl rfl (fun K hK => ?_) (fun K hK => ?_) (fun K hK => ?_)
        · refine wp_buildSlice_bytes 26 5 12 _ iB pubH rfl (by kernel_rfl) rfl (by decide) uS HiB.out HzB.out HsB.out ?_
          intro gh wh Eh Hh hbh
          have B19 : Hid (wh.heap[gh]? = some (.cells (bs pubH).toArray 5 (0, 0))) := Hh
          have e19 : w7.heap.size ≤ gh := by have := Eh.out; have := hS0.size; omega
          try have nht : gh ≠ gt := fun e => by have := (Array.getElem?_eq_some_iff.1 B20.out).1; have := Eh.out; have := hbh.size; omega
          try replace G0 := Lib.hid (heap_bel G0.out hbh)
          try replace G1 := Lib.hid (heap_bel G1.out hbh)
          try replace P0 := Lib.hid (heap_bel P0.out hbh)
          try replace P1 := Lib.hid (heap_bel P1.out hbh)
          try replace F20 := Lib.hid (heap_bel F20.out hbh)
          try replace B20 := Lib.hid (heap_bel B20.out hbh)
          clear Eh Hh
          refine hK _ _ ⟨fun _ _ h => Fr.tr h ((Fr.of_below (M := (fun j => j = g0 ∨ j = g1)) hbh)), ?_⟩
          clear hK
          replace hS0 := Fr.tr hS0 ((Fr.of_below (M := (fun j => j = g0 ∨ j = g1)) hbh))
          simp only [Act.put, List.setIfInBounds_toArray, List.set_cons_succ, List.set_cons_zero]
          refine o3_os ?_
          refine os_two rfl rfl rfl rfl (fun K hK => ?_) (fun K hK => ?_)
          · refine wp_buildSlice_bytes 26 5 114 PP iB pubT rfl (hpp _) pubT_len ⟨by omega, by omega⟩ uS HiB.out HzB.out HsB.out ?_
            intro gt wt Et Ht hbt
            have B20 : Hid (wt.heap[gt]? = some (.cells (bs pubT).toArray 5 (0, 0))) := Ht
            have e20 : w7.heap.size ≤ gt := by have := Et.out; have := hS0.size; omega
            try have nht : gh ≠ gt := fun e => by have := (Array.getElem?_eq_some_iff.1 B19.out).1; have := Et.out; have := hbt.size; omega
            try replace G0 := Lib.hid (heap_bel G0.out hbt)
            try replace G1 := Lib.hid (heap_bel G1.out hbt)
            try replace P0 := Lib.hid (heap_bel P0.out hbt)
            try replace P1 := Lib.hid (heap_bel P1.out hbt)
            try replace B19 := Lib.hid (heap_bel B19.out hbt)
            clear Et Ht
            refine hK _ _ ⟨fun _ _ h => Fr.tr h ((Fr.of_below (M := (fun j => j = g0 ∨ j = g1)) hbt)), ?_⟩
            clear hK
            replace hS0 := Fr.tr hS0 ((Fr.of_below (M := (fun j => j = g0 ∨ j = g1)) hbt))
            simp only [Act.put, List.setIfInBounds_toArray, List.set_cons_succ, List.set_cons_zero]
            refine os_two rfl rfl rfl rfl (fun K hK => ?_) (fun K hK => ?_)
            · refine wp_mark 26 5 (.tmp 20) gt 114 114 (bs pubT).toArray rfl rfl B20.out uS uB ?_
              intro wm Hm hgm
              have F20 : Hid (wm.heap[gt]? = some (.cells (bs pubT).toArray 5 ((bs pubT).toArray.size, (bs pubT).toArray.size + 1))) := Hm
              try replace G0 := Lib.hid (heap_gr hgm G0.out (by omega))
              try replace G1 := Lib.hid (heap_gr hgm G1.out (by omega))
              try replace P0 := Lib.hid (heap_gr hgm P0.out (by omega))
              try replace P1 := Lib.hid (heap_gr hgm P1.out (by omega))
              try replace B19 := Lib.hid (heap_gr hgm B19.out (by omega))
              clear Hm B20
              refine hK _ _ ⟨fun _ _ _ => hS0.trans (Fr.of_grown hgm) (fun i hi e => by injection e with e; omega), ?_⟩
              clear hK
              replace hS0 := hS0.trans (Fr.of_grown hgm) (fun i hi e => by injection e with e; omega)
              simp only [Act.put, List.setIfInBounds_toArray, List.set_cons_succ, List.set_cons_zero]
              refine os_run rfl rfl (fun K hK => ?_)
              refine wp_store_abs 25 (.tmp 1) (.tmp 18) rfl g1 25 _ (bs pubN).toArray rfl rfl G1.out (by simpa using i2.out) (by simp [bs_length, pubN]) (by simp; exact bs_oneCell _) ?_
              intro wn Hn hgn
              have P1 : Hid (wn.heap[g1]? = some (.cells (bs pubN).toArray 25 (0, 0))) := Hn
              try replace G0 := Lib.hid (heap_gr hgn G0.out (by omega))
              try replace P0 := Lib.hid (heap_gr hgn P0.out (by omega))
              try replace B19 := Lib.hid (heap_gr hgn B19.out (by omega))
              try replace B20 := Lib.hid (heap_gr hgn B20.out (by omega))
              try replace F20 := Lib.hid (heap_gr hgn F20.out (by omega))
              clear Hn G1
              refine hK _ _ ⟨fun _ hk => absurd hk List.not_mem_nil, ?_⟩
              clear hK
              replace hS0 := Fr.tr hS0 (((Fr.of_grown hgn).mono (fun j _ e => .inr (by injection e))))
              simp only [Act.put]
              refine os_move rfl rfl rfl (Nat.le_of_ble_eq_true rfl) ?_
              apply Exists.intro
              refine ⟨fun w' K hK => ?_, ?_⟩
              (focus
                go_simp
                exact hK)
              refine os_move rfl rfl rfl (Nat.le_of_ble_eq_true rfl) ?_
              apply Exists.intro
              refine ⟨fun w' K hK => ?_, ?_⟩
              (focus
                go_simp
                exact hK)
              refine os_done ⟨rfl, ?_⟩
              go_wp2_with fail
              refine bodyPost_ret (v := .tuple #[.agg (bs pubK).toArray, .agg (bs pubN).toArray, .slice (some ⟨gh, 0, none⟩) 12 12, .slice (some ⟨gt, 0, none⟩) 114 114])
                (results_pub Try.results22 rfl rfl rfl rfl (run_loadVar_mid _ g0 0 23 (bs pubK) _ (range_block P0.out) uK.out rfl i1.out) (run_loadVar_mid _ g1 0 25 (bs pubN) _ (range_block P1.out) uN.out rfl i2.out)) rfl
                ⟨gh, gt, rfl, Sl.of_block B19.out rfl 12 rfl, Sl.of_block F20.out rfl 114 pubT_len, by omega, by omega, ?_⟩
              exact ((Fr.of_below (below_drewN X7.out.bel 1)).trans hS0 (fun i _ h => h)).to_below (fun i hi e => by rcases e with e | e <;> omega)
            · refine wp_store_abs 25 (.tmp 1) (.tmp 18) rfl g1 25 _ (bs pubN).toArray rfl rfl G1.out (by simpa using i2.out) (by simp [bs_length, pubN]) (by simp; exact bs_oneCell _) ?_
              intro wn Hn hgn
              have P1 : Hid (wn.heap[g1]? = some (.cells (bs pubN).toArray 25 (0, 0))) := Hn
              try replace G0 := Lib.hid (heap_gr hgn G0.out (by omega))
              try replace P0 := Lib.hid (heap_gr hgn P0.out (by omega))
              try replace B19 := Lib.hid (heap_gr hgn B19.out (by omega))
              try replace B20 := Lib.hid (heap_gr hgn B20.out (by omega))
              try replace F20 := Lib.hid (heap_gr hgn F20.out (by omega))
              clear Hn G1
              refine hK _ _ ⟨fun _ hk => absurd hk List.not_mem_nil, ?_⟩
              clear hK
              replace hS0 := Fr.tr hS0 (((Fr.of_grown hgn).mono (fun j _ e => .inr (by injection e))))
              simp only [Act.put]
              refine os_move rfl rfl rfl (Nat.le_of_ble_eq_true rfl) ?_
              apply Exists.intro
              refine ⟨fun w' K hK => ?_, ?_⟩
              (focus
                go_simp
                exact hK)
              refine os_run rfl rfl (fun K hK => ?_)
              refine wp_mark 26 5 (.tmp 20) gt 114 114 (bs pubT).toArray rfl rfl B20.out uS uB ?_
              intro wm Hm hgm
              have F20 : Hid (wm.heap[gt]? = some (.cells (bs pubT).toArray 5 ((bs pubT).toArray.size, (bs pubT).toArray.size + 1))) := Hm
              try replace G0 := Lib.hid (heap_gr hgm G0.out (by omega))
              try replace G1 := Lib.hid (heap_gr hgm G1.out (by omega))
              try replace P0 := Lib.hid (heap_gr hgm P0.out (by omega))
              try replace P1 := Lib.hid (heap_gr hgm P1.out (by omega))
              try replace B19 := Lib.hid (heap_gr hgm B19.out (by omega))
              clear Hm B20
              refine hK _ _ ⟨fun _ _ _ => hS0.trans (Fr.of_grown hgm) (fun i hi e => by injection e with e; omega), ?_⟩
              clear hK
              replace hS0 := hS0.trans (Fr.of_grown hgm) (fun i hi e => by injection e with e; omega)
              simp only [Act.put, List.setIfInBounds_toArray, List.set_cons_succ, List.set_cons_zero]
              refine os_move rfl rfl rfl (Nat.le_of_ble_eq_true rfl) ?_
              apply Exists.intro
              refine ⟨fun w' K hK => ?_, ?_⟩
              (focus
                go_simp
                exact hK)
              refine os_done ⟨rfl, ?_⟩
              go_wp2_with fail
              refine bodyPost_ret (v := .tuple #[.agg (bs pubK).toArray, .agg (bs pubN).toArray, .slice (some ⟨gh, 0, none⟩) 12 12, .slice (some ⟨gt, 0, none⟩) 114 114])
                (results_pub Try.results22 rfl rfl rfl rfl (run_loadVar_mid _ g0 0 23 (bs pubK) _ (range_block P0.out) uK.out rfl i1.out) (run_loadVar_mid _ g1 0 25 (bs pubN) _ (range_block P1.out) uN.out rfl i2.out)) rfl
                ⟨gh, gt, rfl, Sl.of_block B19.out rfl 12 rfl, Sl.of_block F20.out rfl 114 pubT_len, by omega, by omega, ?_⟩
              exact ((Fr.of_below (below_drewN X7.out.bel 1)).trans hS0 (fun i _ h => h)).to_below (fun i hi e => by rcases e with e | e <;> omega)
          · refine wp_store_abs 25 (.tmp 1) (.tmp 18) rfl g1 25 _ (bs pubN).toArray rfl rfl G1.out (by simpa using i2.out) (by simp [bs_length, pubN]) (by simp; exact bs_oneCell _) ?_
            intro wn Hn hgn
            have P1 : Hid (wn.heap[g1]? = some (.cells (bs pubN).toArray 25 (0, 0))) := Hn
            try replace G0 := Lib.hid (heap_gr hgn G0.out (by omega))
            try replace P0 := Lib.hid (heap_gr hgn P0.out (by omega))
            try replace B19 := Lib.hid (heap_gr hgn B19.out (by omega))
            try replace B20 := Lib.hid (heap_gr hgn B20.out (by omega))
            try replace F20 := Lib.hid (heap_gr hgn F20.out (by omega))
            clear Hn G1
            refine hK _ _ ⟨fun _ hk => absurd hk List.not_mem_nil, ?_⟩
            clear hK
            replace hS0 := Fr.tr hS0 (((Fr.of_grown hgn).mono (fun j _ e => .inr (by injection e))))
            simp only [Act.put]
            refine os_move rfl rfl rfl (Nat.le_of_ble_eq_true rfl) ?_
            apply Exists.intro
            refine ⟨fun w' K hK => ?_, ?_⟩
            (focus
              go_simp
              exact hK)
            refine os_run rfl rfl (fun K hK => ?_)
            refine wp_buildSlice_bytes 26 5 114 PP iB pubT rfl (hpp _) pubT_len ⟨by omega, by omega⟩ uS HiB.out HzB.out HsB.out ?_
            intro gt wt Et Ht hbt
            have B20 : Hid (wt.heap[gt]? = some (.cells (bs pubT).toArray 5 (0, 0))) := Ht
            have e20 : w7.heap.size ≤ gt := by have := Et.out; have := hS0.size; omega
            try have nht : gh ≠ gt := fun e => by have := (Array.getElem?_eq_some_iff.1 B19.out).1; have := Et.out; have := hbt.size; omega
            try replace G0 := Lib.hid (heap_bel G0.out hbt)
            try replace G1 := Lib.hid (heap_bel G1.out hbt)
            try replace P0 := Lib.hid (heap_bel P0.out hbt)
            try replace P1 := Lib.hid (heap_bel P1.out hbt)
            try replace B19 := Lib.hid (heap_bel B19.out hbt)
            clear Et Ht
            refine hK _ _ ⟨fun _ _ h => Fr.tr h ((Fr.of_below (M := (fun j => j = g0 ∨ j = g1)) hbt)), ?_⟩
            clear hK
            replace hS0 := Fr.tr hS0 ((Fr.of_below (M := (fun j => j = g0 ∨ j = g1)) hbt))
            simp only [Act.put, List.setIfInBounds_toArray, List.set_cons_succ, List.set_cons_zero]
            refine os_run rfl rfl (fun K hK => ?_)
            refine wp_mark 26 5 (.tmp 20) gt 114 114 (bs pubT).toArray rfl rfl B20.out uS uB ?_
            intro wm Hm hgm
            have F20 : Hid (wm.heap[gt]? = some (.cells (bs pubT).toArray 5 ((bs pubT).toArray.size, (bs pubT).toArray.size + 1))) := Hm
            try replace G0 := Lib.hid (heap_gr hgm G0.out (by omega))
            try replace G1 := Lib.hid (heap_gr hgm G1.out (by omega))
            try replace P0 := Lib.hid (heap_gr hgm P0.out (by omega))
            try replace P1 := Lib.hid (heap_gr hgm P1.out (by omega))
            try replace B19 := Lib.hid (heap_gr hgm B19.out (by omega))
            clear Hm B20
            refine hK _ _ ⟨fun _ _ _ => hS0.trans (Fr.of_grown hgm) (fun i hi e => by injection e with e; omega), ?_⟩
            clear hK
            replace hS0 := hS0.trans (Fr.of_grown hgm) (fun i hi e => by injection e with e; omega)
            simp only [Act.put, List.setIfInBounds_toArray, List.set_cons_succ, List.set_cons_zero]
            refine os_move rfl rfl rfl (Nat.le_of_ble_eq_true rfl) ?_
            apply Exists.intro
            refine ⟨fun w' K hK => ?_, ?_⟩
            (focus
              go_simp
              exact hK)
            refine os_done ⟨rfl, ?_⟩
            go_wp2_with fail
            refine bodyPost_ret (v := .tuple #[.agg (bs pubK).toArray, .agg (bs pubN).toArray, .slice (some ⟨gh, 0, none⟩) 12 12, .slice (some ⟨gt, 0, none⟩) 114 114])
              (results_pub Try.results22 rfl rfl rfl rfl (run_loadVar_mid _ g0 0 23 (bs pubK) _ (range_block P0.out) uK.out rfl i1.out) (run_loadVar_mid _ g1 0 25 (bs pubN) _ (range_block P1.out) uN.out rfl i2.out)) rfl
              ⟨gh, gt, rfl, Sl.of_block B19.out rfl 12 rfl, Sl.of_block F20.out rfl 114 pubT_len, by omega, by omega, ?_⟩
            exact ((Fr.of_below (below_drewN X7.out.bel 1)).trans hS0 (fun i _ h => h)).to_below (fun i hi e => by rcases e with e | e <;> omega)
        · refine wp_buildSlice_bytes 26 5 114 PP iB pubT rfl (hpp _) pubT_len ⟨by omega, by omega⟩ uS HiB.out HzB.out HsB.out ?_
          intro gt wt Et Ht hbt
          have B20 : Hid (wt.heap[gt]? = some (.cells (bs pubT).toArray 5 (0, 0))) := Ht
          have e20 : w7.heap.size ≤ gt := by have := Et.out; have := hS0.size; omega
          try have nht : gh ≠ gt := fun e => by have := (Array.getElem?_eq_some_iff.1 B19.out).1; have := Et.out; have := hbt.size; omega
          try replace G0 := Lib.hid (heap_bel G0.out hbt)
          try replace G1 := Lib.hid (heap_bel G1.out hbt)
          try replace P0 := Lib.hid (heap_bel P0.out hbt)
          try replace P1 := Lib.hid (heap_bel P1.out hbt)
          try replace B19 := Lib.hid (heap_bel B19.out hbt)
          clear Et Ht
          refine hK _ _ ⟨fun _ _ h => Fr.tr h ((Fr.of_below (M := (fun j => j = g0 ∨ j = g1)) hbt)), ?_⟩
          clear hK
          replace hS0 := Fr.tr hS0 ((Fr.of_below (M := (fun j => j = g0 ∨ j = g1)) hbt))
          simp only [Act.put, List.setIfInBounds_toArray, List.set_cons_succ, List.set_cons_zero]
          refine o3_three rfl rfl rfl rfl rfl rfl (fun K hK => ?_) (fun K hK => ?_) (fun K hK => ?_)
          · refine wp_buildSlice_bytes 26 5 12 _ iB pubH rfl (by kernel_rfl) rfl (by decide) uS HiB.out HzB.out HsB.out ?_
            intro gh wh Eh Hh hbh
            have B19 : Hid (wh.heap[gh]? = some (.cells (bs pubH).toArray 5 (0, 0))) := Hh
            have e19 : w7.heap.size ≤ gh := by have := Eh.out; have := hS0.size; omega
            try have nht : gh ≠ gt := fun e => by have := (Array.getElem?_eq_some_iff.1 B20.out).1; have := Eh.out; have := hbh.size; omega
            try replace G0 := Lib.hid (heap_bel G0.out hbh)
            try replace G1 := Lib.hid (heap_bel G1.out hbh)
            try replace P0 := Lib.hid (heap_bel P0.out hbh)
            try replace P1 := Lib.hid (heap_bel P1.out hbh)
            try replace F20 := Lib.hid (heap_bel F20.out hbh)
            try replace B20 := Lib.hid (heap_bel B20.out hbh)
            clear Eh Hh
            refine hK _ _ ⟨fun _ _ h => Fr.tr h ((Fr.of_below (M := (fun j => j = g0 ∨ j = g1)) hbh)), ?_⟩
            clear hK
            replace hS0 := Fr.tr hS0 ((Fr.of_below (M := (fun j => j = g0 ∨ j = g1)) hbh))
            simp only [Act.put, List.setIfInBounds_toArray, List.set_cons_succ, List.set_cons_zero]
            refine o3_os ?_
            refine os_two rfl rfl rfl rfl (fun K hK => ?_) (fun K hK => ?_)
            · refine wp_mark 26 5 (.tmp 20) gt 114 114 (bs pubT).toArray rfl rfl B20.out uS uB ?_
              intro wm Hm hgm
              have F20 : Hid (wm.heap[gt]? = some (.cells (bs pubT).toArray 5 ((bs pubT).toArray.size, (bs pubT).toArray.size + 1))) := Hm
              try replace G0 := Lib.hid (heap_gr hgm G0.out (by omega))
              try replace G1 := Lib.hid (heap_gr hgm G1.out (by omega))
              try replace P0 := Lib.hid (heap_gr hgm P0.out (by omega))
              try replace P1 := Lib.hid (heap_gr hgm P1.out (by omega))
              try replace B19 := Lib.hid (heap_gr hgm B19.out (by omega))
              clear Hm B20
              refine hK _ _ ⟨fun _ _ _ => hS0.trans (Fr.of_grown hgm) (fun i hi e => by injection e with e; omega), ?_⟩
              clear hK
              replace hS0 := hS0.trans (Fr.of_grown hgm) (fun i hi e => by injection e with e; omega)
              simp only [Act.put, List.setIfInBounds_toArray, List.set_cons_succ, List.set_cons_zero]
              refine os_run rfl rfl (fun K hK => ?_)
              refine wp_store_abs 25 (.tmp 1) (.tmp 18) rfl g1 25 _ (bs pubN).toArray rfl rfl G1.out (by simpa using i2.out) (by simp [bs_length, pubN]) (by simp; exact bs_oneCell _) ?_
              intro wn Hn hgn
              have P1 : Hid (wn.heap[g1]? = some (.cells (bs pubN).toArray 25 (0, 0))) := Hn
              try replace G0 := Lib.hid (heap_gr hgn G0.out (by omega))
              try replace P0 := Lib.hid (heap_gr hgn P0.out (by omega))
              try replace B19 := Lib.hid (heap_gr hgn B19.out (by omega))
              try replace B20 := Lib.hid (heap_gr hgn B20.out (by omega))
              try replace F20 := Lib.hid (heap_gr hgn F20.out (by omega))
              clear Hn G1
              refine hK _ _ ⟨fun _ hk => absurd hk List.not_mem_nil, ?_⟩
              clear hK
              replace hS0 := Fr.tr hS0 (((Fr.of_grown hgn).mono (fun j _ e => .inr (by injection e))))
              simp only [Act.put]
              refine os_move rfl rfl rfl (Nat.le_of_ble_eq_true rfl) ?_
              apply Exists.intro
              refine ⟨fun w' K hK => ?_, ?_⟩
              (focus
                go_simp
                exact hK)
              refine os_move rfl rfl rfl (Nat.le_of_ble_eq_true rfl) ?_
              apply Exists.intro
              refine ⟨fun w' K hK => ?_, ?_⟩
              (focus
                go_simp
                exact hK)
              refine os_done ⟨rfl, ?_⟩
              go_wp2_with fail
              refine bodyPost_ret (v := .tuple #[.agg (bs pubK).toArray, .agg (bs pubN).toArray, .slice (some ⟨gh, 0, none⟩) 12 12, .slice (some ⟨gt, 0, none⟩) 114 114])
                (results_pub Try.results22 rfl rfl rfl rfl (run_loadVar_mid _ g0 0 23 (bs pubK) _ (range_block P0.out) uK.out rfl i1.out) (run_loadVar_mid _ g1 0 25 (bs pubN) _ (range_block P1.out) uN.out rfl i2.out)) rfl
                ⟨gh, gt, rfl, Sl.of_block B19.out rfl 12 rfl, Sl.of_block F20.out rfl 114 pubT_len, by omega, by omega, ?_⟩
              exact ((Fr.of_below (below_drewN X7.out.bel 1)).trans hS0 (fun i _ h => h)).to_below (fun i hi e => by rcases e with e | e <;> omega)
            · refine wp_store_abs 25 (.tmp 1) (.tmp 18) rfl g1 25 _ (bs pubN).toArray rfl rfl G1.out (by simpa using i2.out) (by simp [bs_length, pubN]) (by simp; exact bs_oneCell _) ?_
              intro wn Hn hgn
              have P1 : Hid (wn.heap[g1]? = some (.cells (bs pubN).toArray 25 (0, 0))) := Hn
              try replace G0 := Lib.hid (heap_gr hgn G0.out (by omega))
              try replace P0 := Lib.hid (heap_gr hgn P0.out (by omega))
              try replace B19 := Lib.hid (heap_gr hgn B19.out (by omega))
              try replace B20 := Lib.hid (heap_gr hgn B20.out (by omega))
              try replace F20 := Lib.hid (heap_gr hgn F20.out (by omega))
              clear Hn G1
              refine hK _ _ ⟨fun _ hk => absurd hk List.not_mem_nil, ?_⟩
              clear hK
              replace hS0 := Fr.tr hS0 (((Fr.of_grown hgn).mono (fun j _ e => .inr (by injection e))))
              simp only [Act.put]
              refine os_move rfl rfl rfl (Nat.le_of_ble_eq_true rfl) ?_
              apply Exists.intro
              refine ⟨fun w' K hK => ?_, ?_⟩
              (focus
                go_simp
                exact hK)
              refine os_run rfl rfl (fun K hK => ?_)
              refine wp_mark 26 5 (.tmp 20) gt 114 114 (bs pubT).toArray rfl rfl B20.out uS uB ?_
              intro wm Hm hgm
              have F20 : Hid (wm.heap[gt]? = some (.cells (bs pubT).toArray 5 ((bs pubT).toArray.size, (bs pubT).toArray.size + 1))) := Hm
              try replace G0 := Lib.hid (heap_gr hgm G0.out (by omega))
              try replace G1 := Lib.hid (heap_gr hgm G1.out (by omega))
              try replace P0 := Lib.hid (heap_gr hgm P0.out (by omega))
              try replace P1 := Lib.hid (heap_gr hgm P1.out (by omega))
              try replace B19 := Lib.hid (heap_gr hgm B19.out (by omega))
              clear Hm B20
              refine hK _ _ ⟨fun _ _ _ => hS0.trans (Fr.of_grown hgm) (fun i hi e => by injection e with e; omega), ?_⟩
              clear hK
              replace hS0 := hS0.trans (Fr.of_grown hgm) (fun i hi e => by injection e with e; omega)
              simp only [Act.put, List.setIfInBounds_toArray, List.set_cons_succ, List.set_cons_zero]
              refine os_move rfl rfl rfl (Nat.le_of_ble_eq_true rfl) ?_
              apply Exists.intro
              refine ⟨fun w' K hK => ?_, ?_⟩
              (focus
                go_simp
                exact hK)
              refine os_done ⟨rfl, ?_⟩
              go_wp2_with fail
              refine bodyPost_ret (v := .tuple #[.agg (bs pubK).toArray, .agg (bs pubN).toArray, .slice (some ⟨gh, 0, none⟩) 12 12, .slice (some ⟨gt, 0, none⟩) 114 114])
                (results_pub Try.results22 rfl rfl rfl rfl (run_loadVar_mid _ g0 0 23 (bs pubK) _ (range_block P0.out) uK.out rfl i1.out) (run_loadVar_mid _ g1 0 25 (bs pubN) _ (range_block P1.out) uN.out rfl i2.out)) rfl
                ⟨gh, gt, rfl, Sl.of_block B19.out rfl 12 rfl, Sl.of_block F20.out rfl 114 pubT_len, by omega, by omega, ?_⟩
              exact ((Fr.of_below (below_drewN X7.out.bel 1)).trans hS0 (fun i _ h => h)).to_below (fun i hi e => by rcases e with e | e <;> omega)
          · refine wp_mark 26 5 (.tmp 20) gt 114 114 (bs pubT).toArray rfl rfl B20.out uS uB ?_
            intro wm Hm hgm
            have F20 : Hid (wm.heap[gt]? = some (.cells (bs pubT).toArray 5 ((bs pubT).toArray.size, (bs pubT).toArray.size + 1))) := Hm
            try replace G0 := Lib.hid (heap_gr hgm G0.out (by omega))
            try replace G1 := Lib.hid (heap_gr hgm G1.out (by omega))
            try replace P0 := Lib.hid (heap_gr hgm P0.out (by omega))
            try replace P1 := Lib.hid (heap_gr hgm P1.out (by omega))
            try replace B19 := Lib.hid (heap_gr hgm B19.out (by omega))
            clear Hm B20
            refine hK _ _ ⟨fun _ _ _ => hS0.trans (Fr.of_grown hgm) (fun i hi e => by injection e with e; omega), ?_⟩
            clear hK
            replace hS0 := hS0.trans (Fr.of_grown hgm) (fun i hi e => by injection e with e; omega)
            simp only [Act.put, List.setIfInBounds_toArray, List.set_cons_succ, List.set_cons_zero]
            refine o3_os ?_
            refine os_two rfl rfl rfl rfl (fun K hK => ?_) (fun K hK => ?_)
            · refine wp_buildSlice_bytes 26 5 12 _ iB pubH rfl (by kernel_rfl) rfl (by decide) uS HiB.out HzB.out HsB.out ?_
              intro gh wh Eh Hh hbh
              have B19 : Hid (wh.heap[gh]? = some (.cells (bs pubH).toArray 5 (0, 0))) := Hh
              have e19 : w7.heap.size ≤ gh := by have := Eh.out; have := hS0.size; omega
              try have nht : gh ≠ gt := fun e => by have := (Array.getElem?_eq_some_iff.1 B20.out).1; have := Eh.out; have := hbh.size; omega
              try replace G0 := Lib.hid (heap_bel G0.out hbh)
              try replace G1 := Lib.hid (heap_bel G1.out hbh)
              try replace P0 := Lib.hid (heap_bel P0.out hbh)
              try replace P1 := Lib.hid (heap_bel P1.out hbh)
              try replace F20 := Lib.hid (heap_bel F20.out hbh)
              try replace B20 := Lib.hid (heap_bel B20.out hbh)
              clear Eh Hh
              refine hK _ _ ⟨fun _ _ h => Fr.tr h ((Fr.of_below (M := (fun j => j = g0 ∨ j = g1)) hbh)), ?_⟩
              clear hK
              replace hS0 := Fr.tr hS0 ((Fr.of_below (M := (fun j => j = g0 ∨ j = g1)) hbh))
              simp only [Act.put, List.setIfInBounds_toArray, List.set_cons_succ, List.set_cons_zero]
              refine os_run rfl rfl (fun K hK => ?_)
              refine wp_store_abs 25 (.tmp 1) (.tmp 18) rfl g1 25 _ (bs pubN).toArray rfl rfl G1.out (by simpa using i2.out) (by simp [bs_length, pubN]) (by simp; exact bs_oneCell _) ?_
              intro wn Hn hgn
              have P1 : Hid (wn.heap[g1]? = some (.cells (bs pubN).toArray 25 (0, 0))) := Hn
              try replace G0 := Lib.hid (heap_gr hgn G0.out (by omega))
              try replace P0 := Lib.hid (heap_gr hgn P0.out (by omega))
              try replace B19 := Lib.hid (heap_gr hgn B19.out (by omega))
              try replace B20 := Lib.hid (heap_gr hgn B20.out (by omega))
              try replace F20 := Lib.hid (heap_gr hgn F20.out (by omega))
              clear Hn G1
              refine hK _ _ ⟨fun _ hk => absurd hk List.not_mem_nil, ?_⟩
              clear hK
              replace hS0 := Fr.tr hS0 (((Fr.of_grown hgn).mono (fun j _ e => .inr (by injection e))))
              simp only [Act.put]
              refine os_move rfl rfl rfl (Nat.le_of_ble_eq_true rfl) ?_
              apply Exists.intro
              refine ⟨fun w' K hK => ?_, ?_⟩
              (focus
                go_simp
                exact hK)
              refine os_move rfl rfl rfl (Nat.le_of_ble_eq_true rfl) ?_
              apply Exists.intro
              refine ⟨fun w' K hK => ?_, ?_⟩
              (focus
                go_simp
                exact hK)
              refine os_done ⟨rfl, ?_⟩
              go_wp2_with fail
              refine bodyPost_ret (v := .tuple #[.agg (bs pubK).toArray, .agg (bs pubN).toArray, .slice (some ⟨gh, 0, none⟩) 12 12, .slice (some ⟨gt, 0, none⟩) 114 114])
                (results_pub Try.results22 rfl rfl rfl rfl (run_loadVar_mid _ g0 0 23 (bs pubK) _ (range_block P0.out) uK.out rfl i1.out) (run_loadVar_mid _ g1 0 25 (bs pubN) _ (range_block P1.out) uN.out rfl i2.out)) rfl
                ⟨gh, gt, rfl, Sl.of_block B19.out rfl 12 rfl, Sl.of_block F20.out rfl 114 pubT_len, by omega, by omega, ?_⟩
              exact ((Fr.of_below (below_drewN X7.out.bel 1)).trans hS0 (fun i _ h => h)).to_below (fun i hi e => by rcases e with e | e <;> omega)
            · refine wp_store_abs 25 (.tmp 1) (.tmp 18) rfl g1 25 _ (bs pubN).toArray rfl rfl G1.out (by simpa using i2.out) (by simp [bs_length, pubN]) (by simp; exact bs_oneCell _) ?_
              intro wn Hn hgn
              have P1 : Hid (wn.heap[g1]? = some (.cells (bs pubN).toArray 25 (0, 0))) := Hn
              try replace G0 := Lib.hid (heap_gr hgn G0.out (by omega))
              try replace P0 := Lib.hid (heap_gr hgn P0.out (by omega))
              try replace B19 := Lib.hid (heap_gr hgn B19.out (by omega))
              try replace B20 := Lib.hid (heap_gr hgn B20.out (by omega))
              try replace F20 := Lib.hid (heap_gr hgn F20.out (by omega))
              clear Hn G1
              refine hK _ _ ⟨fun _ hk => absurd hk List.not_mem_nil, ?_⟩
              clear hK
              replace hS0 := Fr.tr hS0 (((Fr.of_grown hgn).mono (fun j _ e => .inr (by injection e))))
              simp only [Act.put]
              refine os_run rfl rfl (fun K hK => ?_)
              refine wp_buildSlice_bytes 26 5 12 _ iB pubH rfl (by kernel_rfl) rfl (by decide) uS HiB.out HzB.out HsB.out ?_
              intro gh wh Eh Hh hbh
              have B19 : Hid (wh.heap[gh]? = some (.cells (bs pubH).toArray 5 (0, 0))) := Hh
              have e19 : w7.heap.size ≤ gh := by have := Eh.out; have := hS0.size; omega
              try have nht : gh ≠ gt := fun e => by have := (Array.getElem?_eq_some_iff.1 B20.out).1; have := Eh.out; have := hbh.size; omega
              try replace G0 := Lib.hid (heap_bel G0.out hbh)
              try replace G1 := Lib.hid (heap_bel G1.out hbh)
              try replace P0 := Lib.hid (heap_bel P0.out hbh)
              try replace P1 := Lib.hid (heap_bel P1.out hbh)
              try replace F20 := Lib.hid (heap_bel F20.out hbh)
              try replace B20 := Lib.hid (heap_bel B20.out hbh)
              clear Eh Hh
              refine hK _ _ ⟨fun _ _ h => Fr.tr h ((Fr.of_below (M := (fun j => j = g0 ∨ j = g1)) hbh)), ?_⟩
              clear hK
              replace hS0 := Fr.tr hS0 ((Fr.of_below (M := (fun j => j = g0 ∨ j = g1)) hbh))
              simp only [Act.put, List.setIfInBounds_toArray, List.set_cons_succ, List.set_cons_zero]
              refine os_move rfl rfl rfl (Nat.le_of_ble_eq_true rfl) ?_
              apply Exists.intro
              refine ⟨fun w' K hK => ?_, ?_⟩
              (focus
                go_simp
                exact hK)
              refine os_move rfl rfl rfl (Nat.le_of_ble_eq_true rfl) ?_
              apply Exists.intro
              refine ⟨fun w' K hK => ?_, ?_⟩
              (focus
                go_simp
                exact hK)
              refine os_done ⟨rfl, ?_⟩
              go_wp2_with fail
              refine bodyPost_ret (v := .tuple #[.agg (bs pubK).toArray, .agg (bs pubN).toArray, .slice (some ⟨gh, 0, none⟩) 12 12, .slice (some ⟨gt, 0, none⟩) 114 114])
                (results_pub Try.results22 rfl rfl rfl rfl (run_loadVar_mid _ g0 0 23 (bs pubK) _ (range_block P0.out) uK.out rfl i1.out) (run_loadVar_mid _ g1 0 25 (bs pubN) _ (range_block P1.out) uN.out rfl i2.out)) rfl
                ⟨gh, gt, rfl, Sl.of_block B19.out rfl 12 rfl, Sl.of_block F20.out rfl 114 pubT_len, by omega, by omega, ?_⟩
              exact ((Fr.of_below (below_drewN X7.out.bel 1)).trans hS0 (fun i _ h => h)).to_below (fun i hi e => by rcases e with e | e <;> omega)
          · refine wp_store_abs 25 (.tmp 1) (.tmp 18) rfl g1 25 _ (bs pubN).toArray rfl rfl G1.out (by simpa using i2.out) (by simp [bs_length, pubN]) (by simp; exact bs_oneCell _) ?_
            intro wn Hn hgn
            have P1 : Hid (wn.heap[g1]? = some (.cells (bs pubN).toArray 25 (0, 0))) := Hn
            try replace G0 := Lib.hid (heap_gr hgn G0.out (by omega))
            try replace P0 := Lib.hid (heap_gr hgn P0.out (by omega))
            try replace B19 := Lib.hid (heap_gr hgn B19.out (by omega))
            try replace B20 := Lib.hid (heap_gr hgn B20.out (by omega))
            try replace F20 := Lib.hid (heap_gr hgn F20.out (by omega))
            clear Hn G1
            refine hK _ _ ⟨fun _ hk => absurd hk List.not_mem_nil, ?_⟩
            clear hK
            replace hS0 := Fr.tr hS0 (((Fr.of_grown hgn).mono (fun j _ e => .inr (by injection e))))
            simp only [Act.put]
            refine o3_os ?_
            refine os_two rfl rfl rfl rfl (fun K hK => ?_) (fun K hK => ?_)
            · refine wp_buildSlice_bytes 26 5 12 _ iB pubH rfl (by kernel_rfl) rfl (by decide) uS HiB.out HzB.out HsB.out ?_
              intro gh wh Eh Hh hbh
              have B19 : Hid (wh.heap[gh]? = some (.cells (bs pubH).toArray 5 (0, 0))) := Hh
              have e19 : w7.heap.size ≤ gh := by have := Eh.out; have := hS0.size; omega
              try have nht : gh ≠ gt := fun e => by have := (Array.getElem?_eq_some_iff.1 B20.out).1; have := Eh.out; have := hbh.size; omega
              try replace G0 := Lib.hid (heap_bel G0.out hbh)
              try replace G1 := Lib.hid (heap_bel G1.out hbh)
              try replace P0 := Lib.hid (heap_bel P0.out hbh)
              try replace P1 := Lib.hid (heap_bel P1.out hbh)
              try replace F20 := Lib.hid (heap_bel F20.out hbh)
              try replace B20 := Lib.hid (heap_bel B20.out hbh)
              clear Eh Hh
              refine hK _ _ ⟨fun _ _ h => Fr.tr h ((Fr.of_below (M := (fun j => j = g0 ∨ j = g1)) hbh)), ?_⟩
              clear hK
              replace hS0 := Fr.tr hS0 ((Fr.of_below (M := (fun j => j = g0 ∨ j = g1)) hbh))
              simp only [Act.put, List.setIfInBounds_toArray, List.set_cons_succ, List.set_cons_zero]
              refine os_move rfl rfl rfl (Nat.le_of_ble_eq_true rfl) ?_
              apply Exists.intro
              refine ⟨fun w' K hK => ?_, ?_⟩
              (focus
                go_simp
                exact hK)
              refine os_run rfl rfl (fun K hK => ?_)
              refine wp_mark 26 5 (.tmp 20) gt 114 114 (bs pubT).toArray rfl rfl B20.out uS uB ?_
              intro wm Hm hgm
              have F20 : Hid (wm.heap[gt]? = some (.cells (bs pubT).toArray 5 ((bs pubT).toArray.size, (bs pubT).toArray.size + 1))) := Hm
              try replace G0 := Lib.hid (heap_gr hgm G0.out (by omega))
              try replace G1 := Lib.hid (heap_gr hgm G1.out (by omega))
              try replace P0 := Lib.hid (heap_gr hgm P0.out (by omega))
              try replace P1 := Lib.hid (heap_gr hgm P1.out (by omega))
              try replace B19 := Lib.hid (heap_gr hgm B19.out (by omega))
              clear Hm B20
              refine hK _ _ ⟨fun _ _ _ => hS0.trans (Fr.of_grown hgm) (fun i hi e => by injection e with e; omega), ?_⟩
              clear hK
              replace hS0 := hS0.trans (Fr.of_grown hgm) (fun i hi e => by injection e with e; omega)
              simp only [Act.put, List.setIfInBounds_toArray, List.set_cons_succ, List.set_cons_zero]
              refine os_move rfl rfl rfl (Nat.le_of_ble_eq_true rfl) ?_
              apply Exists.intro
              refine ⟨fun w' K hK => ?_, ?_⟩
              (focus
                go_simp
                exact hK)
              refine os_done ⟨rfl, ?_⟩
              go_wp2_with fail
              refine bodyPost_ret (v := .tuple #[.agg (bs pubK).toArray, .agg (bs pubN).toArray, .slice (some ⟨gh, 0, none⟩) 12 12, .slice (some ⟨gt, 0, none⟩) 114 114])
                (results_pub Try.results22 rfl rfl rfl rfl (run_loadVar_mid _ g0 0 23 (bs pubK) _ (range_block P0.out) uK.out rfl i1.out) (run_loadVar_mid _ g1 0 25 (bs pubN) _ (range_block P1.out) uN.out rfl i2.out)) rfl
                ⟨gh, gt, rfl, Sl.of_block B19.out rfl 12 rfl, Sl.of_block F20.out rfl 114 pubT_len, by omega, by omega, ?_⟩
              exact ((Fr.of_below (below_drewN X7.out.bel 1)).trans hS0 (fun i _ h => h)).to_below (fun i hi e => by rcases e with e | e <;> omega)
            · refine wp_mark 26 5 (.tmp 20) gt 114 114 (bs pubT).toArray rfl rfl B20.out uS uB ?_
              intro wm Hm hgm
              have F20 : Hid (wm.heap[gt]? = some (.cells (bs pubT).toArray 5 ((bs pubT).toArray.size, (bs pubT).toArray.size + 1))) := Hm
              try replace G0 := Lib.hid (heap_gr hgm G0.out (by omega))
              try replace G1 := Lib.hid (heap_gr hgm G1.out (by omega))
              try replace P0 := Lib.hid (heap_gr hgm P0.out (by omega))
              try replace P1 := Lib.hid (heap_gr hgm P1.out (by omega))
              try replace B19 := Lib.hid (heap_gr hgm B19.out (by omega))
              clear Hm B20
              refine hK _ _ ⟨fun _ _ _ => hS0.trans (Fr.of_grown hgm) (fun i hi e => by injection e with e; omega), ?_⟩
              clear hK
              replace hS0 := hS0.trans (Fr.of_grown hgm) (fun i hi e => by injection e with e; omega)
              simp only [Act.put, List.setIfInBounds_toArray, List.set_cons_succ, List.set_cons_zero]
              refine os_run rfl rfl (fun K hK => ?_)
              refine wp_buildSlice_bytes 26 5 12 _ iB pubH rfl (by kernel_rfl) rfl (by decide) uS HiB.out HzB.out HsB.out ?_
              intro gh wh Eh Hh hbh
              have B19 : Hid (wh.heap[gh]? = some (.cells (bs pubH).toArray 5 (0, 0))) := Hh
              have e19 : w7.heap.size ≤ gh := by have := Eh.out; have := hS0.size; omega
              try have nht : gh ≠ gt := fun e => by have := (Array.getElem?_eq_some_iff.1 B20.out).1; have := Eh.out; have := hbh.size; omega
              try replace G0 := Lib.hid (heap_bel G0.out hbh)
              try replace G1 := Lib.hid (heap_bel G1.out hbh)
              try replace P0 := Lib.hid (heap_bel P0.out hbh)
              try replace P1 := Lib.hid (heap_bel P1.out hbh)
              try replace F20 := Lib.hid (heap_bel F20.out hbh)
              try replace B20 := Lib.hid (heap_bel B20.out hbh)
              clear Eh Hh
              refine hK _ _ ⟨fun _ _ h => Fr.tr h ((Fr.of_below (M := (fun j => j = g0 ∨ j = g1)) hbh)), ?_⟩
              clear hK
              replace hS0 := Fr.tr hS0 ((Fr.of_below (M := (fun j => j = g0 ∨ j = g1)) hbh))
              simp only [Act.put, List.setIfInBounds_toArray, List.set_cons_succ, List.set_cons_zero]
              refine os_move rfl rfl rfl (Nat.le_of_ble_eq_true rfl) ?_
              apply Exists.intro
              refine ⟨fun w' K hK => ?_, ?_⟩
              (focus
                go_simp
                exact hK)
              refine os_move rfl rfl rfl (Nat.le_of_ble_eq_true rfl) ?_
              apply Exists.intro
              refine ⟨fun w' K hK => ?_, ?_⟩
              (focus
                go_simp
                exact hK)
              refine os_done ⟨rfl, ?_⟩
              go_wp2_with fail
              refine bodyPost_ret (v := .tuple #[.agg (bs pubK).toArray, .agg (bs pubN).toArray, .slice (some ⟨gh, 0, none⟩) 12 12, .slice (some ⟨gt, 0, none⟩) 114 114])
                (results_pub Try.results22 rfl rfl rfl rfl (run_loadVar_mid _ g0 0 23 (bs pubK) _ (range_block P0.out) uK.out rfl i1.out) (run_loadVar_mid _ g1 0 25 (bs pubN) _ (range_block P1.out) uN.out rfl i2.out)) rfl
                ⟨gh, gt, rfl, Sl.of_block B19.out rfl 12 rfl, Sl.of_block F20.out rfl 114 pubT_len, by omega, by omega, ?_⟩
              exact ((Fr.of_below (below_drewN X7.out.bel 1)).trans hS0 (fun i _ h => h)).to_below (fun i hi e => by rcases e with e | e <;> omega)
        · refine wp_store_abs 25 (.tmp 1) (.tmp 18) rfl g1 25 _ (bs pubN).toArray rfl rfl G1.out (by simpa using i2.out) (by simp [bs_length, pubN]) (by simp; exact bs_oneCell _) ?_
          intro wn Hn hgn
          have P1 : Hid (wn.heap[g1]? = some (.cells (bs pubN).toArray 25 (0, 0))) := Hn
          try replace G0 := Lib.hid (heap_gr hgn G0.out (by omega))
          try replace P0 := Lib.hid (heap_gr hgn P0.out (by omega))
          try replace B19 := Lib.hid (heap_gr hgn B19.out (by omega))
          try replace B20 := Lib.hid (heap_gr hgn B20.out (by omega))
          try replace F20 := Lib.hid (heap_gr hgn F20.out (by omega))
          clear Hn G1
          refine hK _ _ ⟨fun _ hk => absurd hk List.not_mem_nil, ?_⟩
          clear hK
          replace hS0 := Fr.tr hS0 (((Fr.of_grown hgn).mono (fun j _ e => .inr (by injection e))))
          simp only [Act.put]
          refine o3_os ?_
          refine os_two rfl rfl rfl rfl (fun K hK => ?_) (fun K hK => ?_)
          · refine wp_buildSlice_bytes 26 5 12 _ iB pubH rfl (by kernel_rfl) rfl (by decide) uS HiB.out HzB.out HsB.out ?_
            intro gh wh Eh Hh hbh
            have B19 : Hid (wh.heap[gh]? = some (.cells (bs pubH).toArray 5 (0, 0))) := Hh
            have e19 : w7.heap.size ≤ gh := by have := Eh.out; have := hS0.size; omega
            try have nht : gh ≠ gt := fun e => by have := (Array.getElem?_eq_some_iff.1 B20.out).1; have := Eh.out; have := hbh.size; omega
            try replace G0 := Lib.hid (heap_bel G0.out hbh)
            try replace G1 := Lib.hid (heap_bel G1.out hbh)
            try replace P0 := Lib.hid (heap_bel P0.out hbh)
            try replace P1 := Lib.hid (heap_bel P1.out hbh)
            try replace F20 := Lib.hid (heap_bel F20.out hbh)
            try replace B20 := Lib.hid (heap_bel B20.out hbh)
            clear Eh Hh
            refine hK _ _ ⟨fun _ _ h => Fr.tr h ((Fr.of_below (M := (fun j => j = g0 ∨ j = g1)) hbh)), ?_⟩
            clear hK
            replace hS0 := Fr.tr hS0 ((Fr.of_below (M := (fun j => j = g0 ∨ j = g1)) hbh))
            simp only [Act.put, List.setIfInBounds_toArray, List.set_cons_succ, List.set_cons_zero]
            refine os_move rfl rfl rfl (Nat.le_of_ble_eq_true rfl) ?_
            apply Exists.intro
            refine ⟨fun w' K hK => ?_, ?_⟩
            (focus
              go_simp
              exact hK)
            refine os_run rfl rfl (fun K hK => ?_)
            refine wp_buildSlice_bytes 26 5 114 PP iB pubT rfl (hpp _) pubT_len ⟨by omega, by omega⟩ uS HiB.out HzB.out HsB.out ?_
            intro gt wt Et Ht hbt
            have B20 : Hid (wt.heap[gt]? = some (.cells (bs pubT).toArray 5 (0, 0))) := Ht
            have e20 : w7.heap.size ≤ gt := by have := Et.out; have := hS0.size; omega
            try have nht : gh ≠ gt := fun e => by have := (Array.getElem?_eq_some_iff.1 B19.out).1; have := Et.out; have := hbt.size; omega
            try replace G0 := Lib.hid (heap_bel G0.out hbt)
            try replace G1 := Lib.hid (heap_bel G1.out hbt)
            try replace P0 := Lib.hid (heap_bel P0.out hbt)
            try replace P1 := Lib.hid (heap_bel P1.out hbt)
            try replace B19 := Lib.hid (heap_bel B19.out hbt)
            clear Et Ht
            refine hK _ _ ⟨fun _ _ h => Fr.tr h ((Fr.of_below (M := (fun j => j = g0 ∨ j = g1)) hbt)), ?_⟩
            clear hK
            replace hS0 := Fr.tr hS0 ((Fr.of_below (M := (fun j => j = g0 ∨ j = g1)) hbt))
            simp only [Act.put, List.setIfInBounds_toArray, List.set_cons_succ, List.set_cons_zero]
            refine os_run rfl rfl (fun K hK => ?_)
            refine wp_mark 26 5 (.tmp 20) gt 114 114 (bs pubT).toArray rfl rfl B20.out uS uB ?_
            intro wm Hm hgm
            have F20 : Hid (wm.heap[gt]? = some (.cells (bs pubT).toArray 5 ((bs pubT).toArray.size, (bs pubT).toArray.size + 1))) := Hm
            try replace G0 := Lib.hid (heap_gr hgm G0.out (by omega))
            try replace G1 := Lib.hid (heap_gr hgm G1.out (by omega))
            try replace P0 := Lib.hid (heap_gr hgm P0.out (by omega))
            try replace P1 := Lib.hid (heap_gr hgm P1.out (by omega))
            try replace B19 := Lib.hid (heap_gr hgm B19.out (by omega))
            clear Hm B20
            refine hK _ _ ⟨fun _ _ _ => hS0.trans (Fr.of_grown hgm) (fun i hi e => by injection e with e; omega), ?_⟩
            clear hK
            replace hS0 := hS0.trans (Fr.of_grown hgm) (fun i hi e => by injection e with e; omega)
            simp only [Act.put, List.setIfInBounds_toArray, List.set_cons_succ, List.set_cons_zero]
            refine os_move rfl rfl rfl (Nat.le_of_ble_eq_true rfl) ?_
            apply Exists.intro
            refine ⟨fun w' K hK => ?_, ?_⟩
            (focus
              go_simp
              exact hK)
            refine os_done ⟨rfl, ?_⟩
            go_wp2_with fail
            refine bodyPost_ret (v := .tuple #[.agg (bs pubK).toArray, .agg (bs pubN).toArray, .slice (some ⟨gh, 0, none⟩) 12 12, .slice (some ⟨gt, 0, none⟩) 114 114])
              (results_pub Try.results22 rfl rfl rfl rfl (run_loadVar_mid _ g0 0 23 (bs pubK) _ (range_block P0.out) uK.out rfl i1.out) (run_loadVar_mid _ g1 0 25 (bs pubN) _ (range_block P1.out) uN.out rfl i2.out)) rfl
              ⟨gh, gt, rfl, Sl.of_block B19.out rfl 12 rfl, Sl.of_block F20.out rfl 114 pubT_len, by omega, by omega, ?_⟩
            exact ((Fr.of_below (below_drewN X7.out.bel 1)).trans hS0 (fun i _ h => h)).to_below (fun i hi e => by rcases e with e | e <;> omega)
          · refine wp_buildSlice_bytes 26 5 114 PP iB pubT rfl (hpp _) pubT_len ⟨by omega, by omega⟩ uS HiB.out HzB.out HsB.out ?_
            intro gt wt Et Ht hbt
            have B20 : Hid (wt.heap[gt]? = some (.cells (bs pubT).toArray 5 (0, 0))) := Ht
            have e20 : w7.heap.size ≤ gt := by have := Et.out; have := hS0.size; omega
            try have nht : gh ≠ gt := fun e => by have := (Array.getElem?_eq_some_iff.1 B19.out).1; have := Et.out; have := hbt.size; omega
            try replace G0 := Lib.hid (heap_bel G0.out hbt)
            try replace G1 := Lib.hid (heap_bel G1.out hbt)
            try replace P0 := Lib.hid (heap_bel P0.out hbt)
            try replace P1 := Lib.hid (heap_bel P1.out hbt)
            try replace B19 := Lib.hid (heap_bel B19.out hbt)
            clear Et Ht
            refine hK _ _ ⟨fun _ _ h => Fr.tr h ((Fr.of_below (M := (fun j => j = g0 ∨ j = g1)) hbt)), ?_⟩
            clear hK
            replace hS0 := Fr.tr hS0 ((Fr.of_below (M := (fun j => j = g0 ∨ j = g1)) hbt))
            simp only [Act.put, List.setIfInBounds_toArray, List.set_cons_succ, List.set_cons_zero]
            refine os_two rfl rfl rfl rfl (fun K hK => ?_) (fun K hK => ?_)
            · refine wp_buildSlice_bytes 26 5 12 _ iB pubH rfl (by kernel_rfl) rfl (by decide) uS HiB.out HzB.out HsB.out ?_
              intro gh wh Eh Hh hbh
              have B19 : Hid (wh.heap[gh]? = some (.cells (bs pubH).toArray 5 (0, 0))) := Hh
              have e19 : w7.heap.size ≤ gh := by have := Eh.out; have := hS0.size; omega
              try have nht : gh ≠ gt := fun e => by have := (Array.getElem?_eq_some_iff.1 B20.out).1; have := Eh.out; have := hbh.size; omega
              try replace G0 := Lib.hid (heap_bel G0.out hbh)
              try replace G1 := Lib.hid (heap_bel G1.out hbh)
              try replace P0 := Lib.hid (heap_bel P0.out hbh)
              try replace P1 := Lib.hid (heap_bel P1.out hbh)
              try replace F20 := Lib.hid (heap_bel F20.out hbh)
              try replace B20 := Lib.hid (heap_bel B20.out hbh)
              clear Eh Hh
              refine hK _ _ ⟨fun _ _ h => Fr.tr h ((Fr.of_below (M := (fun j => j = g0 ∨ j = g1)) hbh)), ?_⟩
              clear hK
              replace hS0 := Fr.tr hS0 ((Fr.of_below (M := (fun j => j = g0 ∨ j = g1)) hbh))
              simp only [Act.put, List.setIfInBounds_toArray, List.set_cons_succ, List.set_cons_zero]
              refine os_move rfl rfl rfl (Nat.le_of_ble_eq_true rfl) ?_
              apply Exists.intro
              refine ⟨fun w' K hK => ?_, ?_⟩
              (focus
                go_simp
                exact hK)
              refine os_run rfl rfl (fun K hK => ?_)
              refine wp_mark 26 5 (.tmp 20) gt 114 114 (bs pubT).toArray rfl rfl B20.out uS uB ?_
              intro wm Hm hgm
              have F20 : Hid (wm.heap[gt]? = some (.cells (bs pubT).toArray 5 ((bs pubT).toArray.size, (bs pubT).toArray.size + 1))) := Hm
              try replace G0 := Lib.hid (heap_gr hgm G0.out (by omega))
              try replace G1 := Lib.hid (heap_gr hgm G1.out (by omega))
              try replace P0 := Lib.hid (heap_gr hgm P0.out (by omega))
              try replace P1 := Lib.hid (heap_gr hgm P1.out (by omega))
              try replace B19 := Lib.hid (heap_gr hgm B19.out (by omega))
              clear Hm B20
              refine hK _ _ ⟨fun _ _ _ => hS0.trans (Fr.of_grown hgm) (fun i hi e => by injection e with e; omega), ?_⟩
              clear hK
              replace hS0 := hS0.trans (Fr.of_grown hgm) (fun i hi e => by injection e with e; omega)
              simp only [Act.put, List.setIfInBounds_toArray, List.set_cons_succ, List.set_cons_zero]
              refine os_move rfl rfl rfl (Nat.le_of_ble_eq_true rfl) ?_
              apply Exists.intro
              refine ⟨fun w' K hK => ?_, ?_⟩
              (focus
                go_simp
                exact hK)
              refine os_done ⟨rfl, ?_⟩
              go_wp2_with fail
              refine bodyPost_ret (v := .tuple #[.agg (bs pubK).toArray, .agg (bs pubN).toArray, .slice (some ⟨gh, 0, none⟩) 12 12, .slice (some ⟨gt, 0, none⟩) 114 114])
                (results_pub Try.results22 rfl rfl rfl rfl (run_loadVar_mid _ g0 0 23 (bs pubK) _ (range_block P0.out) uK.out rfl i1.out) (run_loadVar_mid _ g1 0 25 (bs pubN) _ (range_block P1.out) uN.out rfl i2.out)) rfl
                ⟨gh, gt, rfl, Sl.of_block B19.out rfl 12 rfl, Sl.of_block F20.out rfl 114 pubT_len, by omega, by omega, ?_⟩
              exact ((Fr.of_below (below_drewN X7.out.bel 1)).trans hS0 (fun i _ h => h)).to_below (fun i hi e => by rcases e with e | e <;> omega)
            · refine wp_mark 26 5 (.tmp 20) gt 114 114 (bs pubT).toArray rfl rfl B20.out uS uB ?_
              intro wm Hm hgm
              have F20 : Hid (wm.heap[gt]? = some (.cells (bs pubT).toArray 5 ((bs pubT).toArray.size, (bs pubT).toArray.size + 1))) := Hm
              try replace G0 := Lib.hid (heap_gr hgm G0.out (by omega))
              try replace G1 := Lib.hid (heap_gr hgm G1.out (by omega))
              try replace P0 := Lib.hid (heap_gr hgm P0.out (by omega))
              try replace P1 := Lib.hid (heap_gr hgm P1.out (by omega))
              try replace B19 := Lib.hid (heap_gr hgm B19.out (by omega))
              clear Hm B20
              refine hK _ _ ⟨fun _ _ _ => hS0.trans (Fr.of_grown hgm) (fun i hi e => by injection e with e; omega), ?_⟩
              clear hK
              replace hS0 := hS0.trans (Fr.of_grown hgm) (fun i hi e => by injection e with e; omega)
              simp only [Act.put, List.setIfInBounds_toArray, List.set_cons_succ, List.set_cons_zero]
              refine os_run rfl rfl (fun K hK => ?_)
              refine wp_buildSlice_bytes 26 5 12 _ iB pubH rfl (by kernel_rfl) rfl (by decide) uS HiB.out HzB.out HsB.out ?_
              intro gh wh Eh Hh hbh
              have B19 : Hid (wh.heap[gh]? = some (.cells (bs pubH).toArray 5 (0, 0))) := Hh
              have e19 : w7.heap.size ≤ gh := by have := Eh.out; have := hS0.size; omega
              try have nht : gh ≠ gt := fun e => by have := (Array.getElem?_eq_some_iff.1 B20.out).1; have := Eh.out; have := hbh.size; omega
              try replace G0 := Lib.hid (heap_bel G0.out hbh)
              try replace G1 := Lib.hid (heap_bel G1.out hbh)
              try replace P0 := Lib.hid (heap_bel P0.out hbh)
              try replace P1 := Lib.hid (heap_bel P1.out hbh)
              try replace F20 := Lib.hid (heap_bel F20.out hbh)
              try replace B20 := Lib.hid (heap_bel B20.out hbh)
              clear Eh Hh
              refine hK _ _ ⟨fun _ _ h => Fr.tr h ((Fr.of_below (M := (fun j => j = g0 ∨ j = g1)) hbh)), ?_⟩
              clear hK
              replace hS0 := Fr.tr hS0 ((Fr.of_below (M := (fun j => j = g0 ∨ j = g1)) hbh))
              simp only [Act.put, List.setIfInBounds_toArray, List.set_cons_succ, List.set_cons_zero]
              refine os_move rfl rfl rfl (Nat.le_of_ble_eq_true rfl) ?_
              apply Exists.intro
              refine ⟨fun w' K hK => ?_, ?_⟩
              (focus
                go_simp
                exact hK)
              refine os_move rfl rfl rfl (Nat.le_of_ble_eq_true rfl) ?_
              apply Exists.intro
              refine ⟨fun w' K hK => ?_, ?_⟩
              (focus
                go_simp
                exact hK)
              refine os_done ⟨rfl, ?_⟩
              go_wp2_with fail
              refine bodyPost_ret (v := .tuple #[.agg (bs pubK).toArray, .agg (bs pubN).toArray, .slice (some ⟨gh, 0, none⟩) 12 12, .slice (some ⟨gt, 0, none⟩) 114 114])
                (results_pub Try.results22 rfl rfl rfl rfl (run_loadVar_mid _ g0 0 23 (bs pubK) _ (range_block P0.out) uK.out rfl i1.out) (run_loadVar_mid _ g1 0 25 (bs pubN) _ (range_block P1.out) uN.out rfl i2.out)) rfl
                ⟨gh, gt, rfl, Sl.of_block B19.out rfl 12 rfl, Sl.of_block F20.out rfl 114 pubT_len, by omega, by omega, ?_⟩
              exact ((Fr.of_below (below_drewN X7.out.bel 1)).trans hS0 (fun i _ h => h)).to_below (fun i hi e => by rcases e with e | e <;> omega)
end Go.Proofs.Ytklclbppdoahjaa
/- Aead: the published row in numbers. -/
namespace Go.Proofs.Ytklclbppdoahjaa
set_option maxRecDepth 100000
open Go.RowKit

def pubB0 : List UInt8 := [123, 172, 43, 37, 45, 180, 71, 175, 9, 182, 122, 85, 164, 233, 85, 132, 10, 225, 214, 115, 16, 117, 217, 235, 42, 147, 117, 120, 62, 213, 83, 255, 162, 126, 204, 222, 173, 219, 77, 180, 209, 23, 156, 228, 201, 11, 67, 216, 188, 183, 148, 140, 75, 75, 125, 139, 125, 246, 39, 57, 50, 164, 105, 22]
def pubB1 : List UInt8 := [159, 123, 233, 93, 1, 253, 64, 186, 21, 226, 143, 251, 54, 129, 10, 174, 193, 192, 136, 63, 9, 1, 110, 222, 221, 138, 208, 135, 85, 130, 3, 165, 78, 158, 203, 56, 172, 142, 94, 43, 184, 218, 178, 15, 250, 219, 82, 232, 117, 4, 178, 110, 190, 105, 109, 79, 96, 164, 133, 207, 17, 184, 27, 89]
def pubB2 : List UInt8 := [252, 177, 196, 95, 66, 25, 238, 172, 236, 106, 222, 195, 78, 102, 105, 120, 142, 219, 65, 196, 156, 163, 1, 225, 39, 224, 172, 171, 59, 68, 185, 207, 92, 134, 187, 149, 224, 107, 13, 242, 144, 26, 182, 69, 228, 171, 230, 34, 21, 56, 12, 3, 206, 53, 108, 215, 166, 118, 99, 251, 221, 239, 255, 100]
def pubC : List UInt8 := [211, 26, 141, 52, 100, 142, 96, 219, 123, 134, 175, 188, 83, 239, 126, 194, 164, 173, 237, 81, 41, 110, 8, 254, 169, 226, 181, 167, 54, 238, 98, 214, 61, 190, 164, 94, 140, 169, 103, 18, 130, 250, 251, 105, 218, 146, 114, 139, 26, 113, 222, 10, 158, 6, 11, 41, 5, 214, 165, 182, 126, 205, 59, 54, 146, 221, 189, 127, 45, 119, 139, 140, 152, 3, 174, 227, 40, 9, 27, 88, 250, 179, 36, 228, 250, 214, 117, 148, 85, 133, 128, 139, 72, 49, 215, 188, 63, 244, 222, 240, 142, 75, 122, 157, 229, 118, 210, 101, 134, 206, 198, 75, 97, 22]
def pubX : List UInt8 := [80, 81, 82, 83, 192, 193, 194, 195, 196, 197, 198, 199, 0, 0, 0, 0, 211, 26, 141, 52, 100, 142, 96, 219, 123, 134, 175, 188, 83, 239, 126, 194, 164, 173, 237, 81, 41, 110, 8, 254, 169, 226, 181, 167, 54, 238, 98, 214, 61, 190, 164, 94, 140, 169, 103, 18, 130, 250, 251, 105, 218, 146, 114, 139, 26, 113, 222, 10, 158, 6, 11, 41, 5, 214, 165, 182, 126, 205, 59, 54, 146, 221, 189, 127, 45, 119, 139, 140, 152, 3, 174, 227, 40, 9, 27, 88, 250, 179, 36, 228, 250, 214, 117, 148, 85, 133, 128, 139, 72, 49, 215, 188, 63, 244, 222, 240, 142, 75, 122, 157, 229, 118, 210, 101, 134, 206, 198, 75, 97, 22, 0, 0, 0, 0, 0, 0, 0, 0, 0, 0, 0, 0, 0, 0, 12, 0, 0, 0, 0, 0, 0, 0, 114, 0, 0, 0, 0, 0, 0, 0]
def pubG : List UInt8 := [26, 225, 11, 89, 79, 9, 226, 106, 126, 144, 46, 203, 208, 96, 6, 145]
set_option maxRecDepth 100000 in
theorem pub_b0 : blockP pubK 0 pubN = pubB0 := by kernel_rfl
set_option maxRecDepth 100000 in
theorem pub_b1 : blockP pubK 1 pubN = pubB1 := by kernel_rfl
set_option maxRecDepth 100000 in
theorem pub_b2 : blockP pubK 2 pubN = pubB2 := by kernel_rfl
/-- bytes by exclusive or with others -/
def xorB (b B : List UInt8) : List UInt8 := (List.range b.length).map fun j => b.getD j 0 ^^^ B.getD j 0
theorem xorP_two {ky nc B1 B2 b : List UInt8} {c : BitVec 32} (h1 : blockP ky c nc = B1) (h2 : blockP ky (c + 1) nc = B2) (hl : B1.length = 64) (hb : b.length ≤ 128) : xorP ky c nc b = xorB b (B1 ++ B2) := by
  unfold xorP xorB
  apply List.map_congr_left
  intro j hj
  rw [List.mem_range] at hj
  congr 1
  unfold ksP
  by_cases h : j < 64
  · have e : j / 64 = 0 := by omega
    have e2 : j % 64 = j := by omega
    rw [e, e2, show c + BitVec.ofNat 32 0 = c by simp, h1]
    simp only [List.getD_eq_getElem?_getD]
    rw [List.getElem?_append_left (by omega)]
  · have e : j / 64 = 1 := by omega
    have e2 : j % 64 = j - 64 := by omega
    rw [e, e2, show c + BitVec.ofNat 32 1 = c + 1 from rfl, h2]
    simp only [List.getD_eq_getElem?_getD]
    rw [List.getElem?_append_right (by omega), hl]
set_option maxRecDepth 100000 in
theorem pub_xor : xorB pubT (pubB1 ++ pubB2) = pubC := by kernel_rfl
theorem pub_stream : streamL pubK pubN pubT = pubC := by
  unfold streamL
  rw [xorP_two pub_b1 pub_b2 rfl (by rw [pubT_len]; decide), pub_xor]
theorem pub_once : onceL pubK pubN = pubB0.take 32 := by unfold onceL; rw [pub_b0]
set_option maxRecDepth 100000 in
theorem pub_text : aeadT pubH pubC = pubX := by kernel_rfl
set_option maxRecDepth 100000 in
theorem pub_sum : tagL (pubB0.take 32) pubX = pubG := by kernel_rfl
theorem pub_tag : aeadTag pubK pubN pubH pubC = pubG := by unfold aeadTag; rw [pub_once, pub_text, pub_sum]
theorem pub_seal : sealL pubK pubN pubH pubT = pubC ++ pubG := by unfold sealL; rw [pub_stream, pub_tag]
theorem xorP_get2 {key nonce : List UInt8} {ctr : BitVec 32} {b : List UInt8} {j : Nat} (h : j < b.length) : (xorP key ctr nonce b)[j]? = some (b[j] ^^^ ksP key ctr nonce j) := by
  unfold xorP
  rw [List.getElem?_map, List.getElem?_range h]
  simp only [Option.map_some]
  rw [getD_eq h]
theorem xorP_back2 (key nonce : List UInt8) (ctr : BitVec 32) (b : List UInt8) : xorP key ctr nonce (xorP key ctr nonce b) = b := by
  apply List.ext_getElem?
  intro j
  rcases Nat.lt_or_ge j b.length with h | h
  · have h1 : j < (xorP key ctr nonce b).length := by rw [xorP_len]; exact h
    rw [xorP_get2 h1, List.getElem?_eq_getElem h]
    have e := xorP_get2 (key := key) (nonce := nonce) (ctr := ctr) h
    rw [List.getElem?_eq_getElem h1] at e
    rw [Option.some.inj e]
    congr 1
    rw [UInt8.xor_assoc, UInt8.xor_self, UInt8.xor_zero]
  · rw [List.getElem?_eq_none (by rw [xorP_len, xorP_len]; exact h), List.getElem?_eq_none h]
/-- what was sealed opens -/
theorem open_seal (ky nc head b : List UInt8) : openL ky nc head (sealL ky nc head b) = some b := by
  unfold openL
  rw [if_neg (by rw [sealL_len]; omega), sealL_len, Nat.add_sub_cancel]
  unfold sealL
  rw [List.take_left' (streamL_len _ _ _), List.drop_left' (streamL_len _ _ _), if_pos rfl]
  unfold streamL
  rw [xorP_back2]
/-- what opens is sealed to the same -/
theorem seal_open {ky nc head s p : List UInt8} (h : openL ky nc head s = some p) : sealL ky nc head p = s := by
  unfold openL at h
  split at h
  · cases h
  · split at h
    · rename_i h1 h2
      injection h with h; subst h
      unfold sealL streamL
      rw [xorP_back2, ← h2, List.take_append_drop]
    · cases h
end Go.Proofs.Ytklclbppdoahjaa
/- Aead: works. -/
namespace Go.Proofs.Ytklclbppdoahjaa
set_option maxRecDepth 100000
open Go.RowKit
attribute [local go_sem] yld yldUpon_value

theorem Sl.blk {w : World} {F : Nat → Prop} {ad : Addr} {n c : Nat} {l : List UInt8} (h : Sl w F (some ad) n c l) (hl : 0 < l.length) : ad.block < w.heap.size := by
  obtain ⟨ad', ha, hc⟩ := h.rd.at_ hl
  injection ha with ha; subst ha
  exact block_lt_of hc
def pubS : List UInt8 := pubC ++ pubG
theorem pubS_len : pubS.length = 130 := by kernel_rfl
theorem pubS_end : pubS.drop 114 = pubG := by kernel_rfl
theorem pub_open : openL pubK pubN pubH pubS = some pubT := by
  have h := open_seal pubK pubN pubH pubT
  rw [pub_seal] at h; exact h
theorem infoN_ : (Try.prog.info? 25).map (fun i => (i.zero, i.size, i.bytes)) = some (some (.agg (bs (List.replicate 12 0)).toArray), 12, 12) := by kernel_rfl
set_option maxHeartbeats 8000000 in
theorem works_any (w : World) : Calls Try.prog 9 #[] w fun e w' => e = .returned (.bool true) ∧ Below w.heap.size w w' := by
  obtain ⟨iK, hiK, zK, _, _⟩ := info_parts Try.infoK
  have HiK := Lib.hid hiK; have HzK := Lib.hid zK
  obtain ⟨iN, hiN, zN, _, _⟩ := info_parts infoN_
  have HiN := Lib.hid hiN; have HzN := Lib.hid zN
  obtain ⟨iB, hiB, zB, sB, _⟩ := info_parts Try.infoB
  have HiB := Lib.hid hiB; have HzB := Lib.hid zB; have HsB := Lib.hid sB
  clear hiK zK hiN zN hiB zB sB
  have uK := Lib.hid Try.underlying23
  have uN := Lib.hid Try.underlying25
  have uS := Lib.hid Try.underlying26
  have i1 : Hid ((Try.prog.info? 23).map (·.size) = some (bs pubK).length) := by rw [bs_length, pubK_len]; exact Try.sizeKey
  have i2 : Hid ((Try.prog.info? 25).map (·.size) = some (bs pubN).length) := by rw [bs_length]; exact Try.sizeN
  go_enter Try.func9, Try.ntmps9
  go_wp2_with fail
  refine (published_any w).mono ?_
  rintro e w1 ⟨gh, gt, rfl, sh, st, bh, bt, hb1⟩
  have H1 := Lib.hid sh; have T1 := Lib.hid st; have B1 := Lib.hid hb1
  have zh : Hid (∀ k, k = gh → k < w1.heap.size) := fun k e => by rw [e]; exact sh.blk (by decide)
  have zt : Hid (∀ k, k = gt → k < w1.heap.size) := fun k e => by rw [e]; exact st.blk (by rw [pubT_len]; decide)
  clear sh st bh bt hb1
  go_wp2_with (first
    | ((with_reducible refine lst_alloc_d 1 rfl 23 rfl iK _ HiK.out HzK.out ?_ ?_)
       (focus rfl)
       intro g1 w2 Hg Hh hb
       have X2 : Hid (Has w1 w2 [(g1, .cells (bs (List.replicate 32 0)).toArray 23 (0, 0))]) := (Has.start (Below.refl _ w1)).new hb (Nat.le_of_eq Hg.out.1.symm) Hh.out
       clear Hg Hh hb)
    | ((with_reducible refine lst_alloc_d 2 rfl 25 rfl iN _ HiN.out HzN.out ?_ ?_)
       (focus rfl)
       intro g2 w3 Hg Hh hb
       have X3 : Hid (Has w1 w3 [(g2, .cells (bs (List.replicate 12 0)).toArray 25 (0, 0)), (g1, .cells (bs (List.replicate 32 0)).toArray 23 (0, 0))]) := X2.out.new hb (Nat.le_of_eq Hg.out.1.symm) Hh.out
       have h31 : Hid (w3.heap[g1]? = some (.cells (bs (List.replicate 32 0)).toArray 23 (0, 0))) := X3.out.get (by simp)
       clear Hg Hh hb X2)
    | ((with_reducible refine lst_store_abs 23 (.tmp 1) (.tmp 10) rfl g1 23 (bs (List.replicate 32 0)).toArray (bs pubK).toArray rfl rfl h31.out (by simpa using i1.out) (by simp [bs_length, pubK_len]) (by simp; exact bs_oneCell _) ?_ ?_)
       (focus rfl)
       intro w4 Hh4 hg4
       have X4 : Hid (Has w1 w4 [(g2, .cells (bs (List.replicate 12 0)).toArray 25 (0, 0)), (g1, .cells (bs pubK).toArray 23 (0, 0))]) := Has.wr (L := [_]) X3.out hg4 Hh4.out
       have h42 : Hid (w4.heap[g2]? = some (.cells (bs (List.replicate 12 0)).toArray 25 (0, 0))) := X4.out.get (by simp)
       clear Hh4 hg4 X3 h31)
    | ((with_reducible refine lst_store_abs 25 (.tmp 2) (.tmp 11) rfl g2 25 (bs (List.replicate 12 0)).toArray (bs pubN).toArray rfl rfl h42.out (by simpa using i2.out) (by simp [bs_length, pubN]) (by simp; exact bs_oneCell _) ?_ ?_)
       (focus rfl)
       intro w5 Hh5 hg5
       have X5 : Hid (Has w1 w5 [(g2, .cells (bs pubN).toArray 25 (0, 0)), (g1, .cells (bs pubK).toArray 23 (0, 0))]) := Has.wr (L := []) X4.out hg5 Hh5.out
       clear Hh5 hg5 X4 h42))
  have r1 : Hid (w5.rangeAt g1 0 (bs pubK)) := range_block (X5.out.get (by simp) : w5.heap[g1]? = some (.cells (bs pubK).toArray 23 (0, 0)))
  have r2 : Hid (w5.rangeAt g2 0 (bs pubN)) := range_block (X5.out.get (by simp) : w5.heap[g2]? = some (.cells (bs pubN).toArray 25 (0, 0)))
  have l1 := X5.out.lt (g := g1) (o := .cells (bs pubK).toArray 23 (0, 0)) (by simp)
  have l2 := X5.out.lt (g := g2) (o := .cells (bs pubN).toArray 25 (0, 0)) (by simp)
  have H5 := Lib.hid (H1.out.belF X5.out.bel zh.out)
  have T5 := Lib.hid (T1.out.belF X5.out.bel zt.out)
  have zh5 : Hid (∀ k, k = gh → k < w5.heap.size) := fun k hk => Nat.lt_of_lt_of_le (zh.out k hk) X5.out.bel.size
  have zt5 : Hid (∀ k, k = gt → k < w5.heap.size) := fun k hk => Nat.lt_of_lt_of_le (zt.out k hk) X5.out.bel.size
  have B5 := Lib.hid (Below.tr B1.out X5.out.bel)
  clear H1 T1 zh zt B1
  refine wp_calm ?_
  refine wp_region_os (fun _ w' => Below (w5).drew.heap.size (w5).drew w') [1, 2] (.take 1 (.take 2 (.move 3 (.move 4 (.run 0 [1, 2] (.run 5 [] (.move 6 .done))))))) (by kernel_rfl) (by kernel_rfl) (fun _ _ _ _ _ h => nomatch h.1) ?_
  have hS0 : Below (w5).drew.heap.size (w5).drew (w5).drew := Below.refl _ _
  refine os_load_mid 23 (.tmp 1) (g1) (0) (bs pubK) _ hS0 rfl rfl rfl rfl rfl (uK.out) rfl (i1.out) (fun w' h => rangeAt_bel (range_dr (r1.out)) h l1) ⟨_, rfl, ?_⟩
  refine os_load_mid 25 (.tmp 2) (g2) (0) (bs pubN) _ hS0 rfl rfl rfl rfl rfl (uN.out) rfl (i2.out) (fun w' h => rangeAt_bel (range_dr (r2.out)) h l2) ⟨_, rfl, ?_⟩
  refine os_move rfl rfl rfl (Nat.le_of_ble_eq_true rfl) ?_
  apply Exists.intro
  refine ⟨fun w' K hK => ?_, ?_⟩
  (focus
    go_simp
    exact hK)
  refine os_move rfl rfl rfl (Nat.le_of_ble_eq_true rfl) ?_
  apply Exists.intro
  refine ⟨fun w' K hK => ?_, ?_⟩
  (focus
    go_simp
    exact hK)
  refine os_run rfl rfl (fun K hK => ?_)
  go_wp2_with fail
  refine (ANew_any _).mono ?_
  rintro e wq ⟨gq, rfl, hbq⟩
  go_wp2_with fail
  refine ⟨fun _ _ h => Below.tr h (hbq), ?_⟩
  replace hS0 := Below.tr hS0 (hbq)
  refine os_run rfl rfl (fun K hK => ?_)
  go_wp2_with fail
  refine (Seal_any _ pubK_len (by rfl) (H5.out.belF (Below.undr hS0) zh5.out) (fun k hk => Nat.lt_of_lt_of_le (zh5.out k hk) (Below.undr hS0).size) (T5.out.belF (Below.undr hS0) zt5.out) (fun k hk => Nat.lt_of_lt_of_le (zt5.out k hk) (Below.undr hS0).size) (by decide) (by decide)).mono ?_
  rintro e w6 ⟨Ax, nx, cx, rfl, hox, hbx⟩
  go_wp2_with fail
  refine ⟨fun _ hk => absurd hk List.not_mem_nil, ?_⟩
  replace hS0 := Below.tr hS0 (hbx)
  refine os_move rfl rfl rfl (Nat.le_of_ble_eq_true rfl) ?_
  apply Exists.intro
  refine ⟨fun w' K hK => ?_, ?_⟩
  (focus
    go_simp
    exact hK)
  refine os_done ⟨rfl, ?_⟩
  rw [pub_seal] at hox
  obtain rfl : nx = 130 := by have h := hox.1; rw [bs_length] at h; have h2 := pubS_len; unfold pubS at h2; omega
  obtain ⟨ad, rfl⟩ : ∃ ad, Ax = some ad := by
    cases Ax with
    | some ad => exact ⟨ad, rfl⟩
    | none => have := (Sl.of_own hox).zero rfl; omega
  have B6 : Hid (Below w5.heap.size w5 w6) := Below.undr hS0
  have S6 : Hid (Sl w6 (fun k => k < w6.heap.size) (some ad) 130 cx pubS) := (Sl.of_own hox).mono (fun k h => h.2.1)
  have hcx := S6.out.cap
  have H6 := Lib.hid (H5.out.belF B6.out zh5.out)
  have T6 := Lib.hid (T5.out.belF B6.out zt5.out)
  have X6 := Lib.hid (X5.out.bl B6.out)
  have zh6 : Hid (∀ k, k = gh → k < w6.heap.size) := fun k hk => Nat.lt_of_lt_of_le (zh5.out k hk) B6.out.size
  have zt6 : Hid (∀ k, k = gt → k < w6.heap.size) := fun k hk => Nat.lt_of_lt_of_le (zt5.out k hk) B6.out.size
  have BB6 := Lib.hid (Below.tr B5.out B6.out)
  clear hS0 hox B6 H5 T5 X5 zh5 zt5 B5 r1 r2 l1 l2
  go_wp2_with (first
    | ((refine lst_buildSlice_bytes 26 5 16 [(0, .const (.int .u8 211)), (1, .const (.int .u8 26)), (2, .const (.int .u8 141)), (3, .const (.int .u8 52)), (4, .const (.int .u8 100)), (5, .const (.int .u8 142)), (6, .const (.int .u8 96)), (7, .const (.int .u8 219)), (8, .const (.int .u8 123)), (9, .const (.int .u8 134)), (10, .const (.int .u8 175)), (11, .const (.int .u8 188)), (12, .const (.int .u8 83)), (13, .const (.int .u8 239)), (14, .const (.int .u8 126)), (15, .const (.int .u8 194))] iB (pubS.take 16) rfl rfl rfl (by decide) uS.out HiB.out HzB.out HsB.out rfl ?_)
       intro gb w7 Eb Hb7 hb7
       have X7 := Lib.hid (X6.out.bl hb7)
       have S7 := Lib.hid (S6.out.belF hb7 (fun _ h => h))
       have D7 : Hid (Sl w7 (fun k => k = gb) (some ⟨gb, 0, none⟩) 16 16 (pubS.take 16)) := Sl.of_block Hb7.out rfl 16 rfl
       have H7 := Lib.hid (H6.out.belF hb7 zh6.out)
       have T7 := Lib.hid (T6.out.belF hb7 zt6.out)
       have zh7 : Hid (∀ k, k = gh → k < w7.heap.size) := fun k hk => Nat.lt_of_lt_of_le (zh6.out k hk) hb7.size
       have zt7 : Hid (∀ k, k = gt → k < w7.heap.size) := fun k hk => Nat.lt_of_lt_of_le (zt6.out k hk) hb7.size
       have BB7 := Lib.hid (Below.tr BB6.out hb7)
       have zz7 := Lib.hid hb7.size
       clear Eb Hb7 hb7 X6 S6 H6 T6 zh6 zt6 BB6))
  refine (Same_at (Sl.take_ (l := pubS.take 16) (l' := pubS.drop 16) (by rw [List.take_append_drop]; exact S7.out) rfl) D7.out (by decide) (by decide) true (by simp)).mono ?_
  rintro e w8 ⟨rfl, x8, rfl⟩
  have X8 := Lib.hid (X7.out.bl (Below.drN _ x8))
  have S8 : Hid (Sl (w7.drewN x8) (fun k => k < (w7.drewN x8).heap.size) (some ad) 130 cx pubS) := (S7.out.dr x8).mono (fun k h => Nat.lt_of_lt_of_le h zz7.out)
  have H8 := Lib.hid (H7.out.dr x8)
  have T8 := Lib.hid (T7.out.dr x8)
  have BB8 := Lib.hid (Below.tr BB7.out (Below.drN w7 x8))
  have zh8 : Hid (∀ k, k = gh → k < (w7.drewN x8).heap.size) := zh7.out
  have zt8 : Hid (∀ k, k = gt → k < (w7.drewN x8).heap.size) := zt7.out
  generalize w7.drewN x8 = w8 at X8 S8 H8 T8 BB8 zh8 zt8 ⊢
  clear X7 S7 D7 H7 T7 zh7 zt7 BB7 zz7
  go_wp2_with fail
  have r1 : Hid (w8.rangeAt g1 0 (bs pubK)) := range_block (X8.out.get (by simp) : w8.heap[g1]? = some (.cells (bs pubK).toArray 23 (0, 0)))
  have r2 : Hid (w8.rangeAt g2 0 (bs pubN)) := range_block (X8.out.get (by simp) : w8.heap[g2]? = some (.cells (bs pubN).toArray 25 (0, 0)))
  have l1 := X8.out.lt (g := g1) (o := .cells (bs pubK).toArray 23 (0, 0)) (by simp)
  have l2 := X8.out.lt (g := g2) (o := .cells (bs pubN).toArray 25 (0, 0)) (by simp)
  refine wp_calm ?_
  refine wp_region_os (fun _ w' => Below (w8).drew.heap.size (w8).drew w') [1, 2] (.take 1 (.take 2 (.move 3 (.move 4 (.run 0 [1, 2] (.run 5 [] (.move 6 (.move 7 (.move 8 (.move 9 (.move 10 .done))))))))))) (by kernel_rfl) (by kernel_rfl) (fun _ _ _ _ _ h => nomatch h.1) ?_
  have hS0 : Below (w8).drew.heap.size (w8).drew (w8).drew := Below.refl _ _
  refine os_load_mid 23 (.tmp 1) (g1) (0) (bs pubK) _ hS0 rfl rfl rfl rfl rfl (uK.out) rfl (i1.out) (fun w' h => rangeAt_bel (range_dr (r1.out)) h l1) ⟨_, rfl, ?_⟩
  refine os_load_mid 25 (.tmp 2) (g2) (0) (bs pubN) _ hS0 rfl rfl rfl rfl rfl (uN.out) rfl (i2.out) (fun w' h => rangeAt_bel (range_dr (r2.out)) h l2) ⟨_, rfl, ?_⟩
  refine os_move rfl rfl rfl (Nat.le_of_ble_eq_true rfl) ?_
  apply Exists.intro
  refine ⟨fun w' K hK => ?_, ?_⟩
  (focus
    go_simp
    exact hK)
  refine os_move rfl rfl rfl (Nat.le_of_ble_eq_true rfl) ?_
  apply Exists.intro
  refine ⟨fun w' K hK => ?_, ?_⟩
  (focus
    go_simp
    exact hK)
  refine os_run rfl rfl (fun K hK => ?_)
  go_wp2_with fail
  refine (ANew_any _).mono ?_
  rintro e wq ⟨gq, rfl, hbq⟩
  go_wp2_with fail
  refine ⟨fun _ _ h => Below.tr h (hbq), ?_⟩
  replace hS0 := Below.tr hS0 (hbq)
  refine os_run rfl rfl (fun K hK => ?_)
  go_wp2_with fail
  refine (Open_any _ pubK_len (by rfl) (H8.out.belF (Below.undr hS0) zh8.out) (fun k hk => Nat.lt_of_lt_of_le (zh8.out k hk) (Below.undr hS0).size) (S8.out.belF (Below.undr hS0) (fun _ h => h)) (fun k hk => Nat.lt_of_lt_of_le hk (Below.undr hS0).size) (by decide) (by decide)).mono ?_
  rw [pub_open]
  rintro e w9 ⟨⟨A9, n9, c9, rfl, ho9⟩, hb9⟩
  go_wp2_with fail
  refine ⟨fun _ hk => absurd hk List.not_mem_nil, ?_⟩
  replace hS0 := Below.tr hS0 (hb9)
  refine os_move rfl rfl rfl (Nat.le_of_ble_eq_true rfl) ?_
  apply Exists.intro
  refine ⟨fun w' K hK => ?_, ?_⟩
  (focus
    go_simp
    exact hK)
  refine os_move rfl rfl rfl (Nat.le_of_ble_eq_true rfl) ?_
  apply Exists.intro
  refine ⟨fun w' K hK => ?_, ?_⟩
  (focus
    go_simp
    exact hK)
  refine os_move rfl rfl rfl (Nat.le_of_ble_eq_true rfl) ?_
  apply Exists.intro
  refine ⟨fun w' K hK => ?_, ?_⟩
  (focus
    go_simp
    exact hK)
  refine os_move rfl rfl rfl (Nat.le_of_ble_eq_true rfl) ?_
  apply Exists.intro
  refine ⟨fun w' K hK => ?_, ?_⟩
  (focus
    go_simp
    exact hK)
  refine os_move rfl rfl rfl (Nat.le_of_ble_eq_true rfl) ?_
  apply Exists.intro
  refine ⟨fun w' K hK => ?_, ?_⟩
  (focus
    go_simp
    exact hK)
  refine os_done ⟨rfl, ?_⟩
  obtain rfl : n9 = 114 := by have h := ho9.1; simp only [Option.getD_some] at h; rw [bs_length, pubT_len] at h; omega
  have X9 := Lib.hid (X8.out.bl (Below.undr hS0))
  have S9 := Lib.hid (S8.out.belF (Below.undr hS0) (fun _ h => h))
  have T9 := Lib.hid (T8.out.belF (Below.undr hS0) zt8.out)
  have R9 := Lib.hid (Sl.of_own ho9)
  have BB9 := Lib.hid (Below.tr BB8.out (Below.undr hS0))
  have zz9 : Hid (w8.heap.size ≤ w9.heap.size) := (Below.undr hS0).size
  clear hS0 ho9 X8 S8 H8 T8 BB8 zh8 zt8 r1 r2 l1 l2
  go_wp2_with fail
  refine (Same_at R9.out T9.out (by decide) (by decide) true (by simp)).mono ?_
  rintro e w10 ⟨rfl, x10, rfl⟩
  have S10 := Lib.hid (S9.out.dr x10)
  have BB10 := Lib.hid (Below.tr BB9.out (Below.drN w9 x10))
  have zz10 : Hid (w8.heap.size ≤ (w9.drewN x10).heap.size) := zz9.out
  clear X9 S9 T9 R9 BB9 zz9
  generalize w9.drewN x10 = w10 at S10 BB10 zz10 ⊢
  go_wp2_with (first
    | ((refine lst_buildSlice_bytes 26 5 16 [(0, .const (.int .u8 26)), (1, .const (.int .u8 225)), (2, .const (.int .u8 11)), (3, .const (.int .u8 89)), (4, .const (.int .u8 79)), (5, .const (.int .u8 9)), (6, .const (.int .u8 226)), (7, .const (.int .u8 106)), (8, .const (.int .u8 126)), (9, .const (.int .u8 144)), (10, .const (.int .u8 46)), (11, .const (.int .u8 203)), (12, .const (.int .u8 208)), (13, .const (.int .u8 96)), (14, .const (.int .u8 6)), (15, .const (.int .u8 145))] iB pubG rfl rfl rfl (by decide) uS.out HiB.out HzB.out HsB.out rfl ?_)
       intro gb w11 Eb Hb hb
       have S11 := Lib.hid (S10.out.belF hb (fun k h => Nat.lt_of_lt_of_le h zz10.out))
       have D11 : Hid (Sl w11 (fun k => k = gb) (some ⟨gb, 0, none⟩) 16 16 pubG) := Sl.of_block Hb.out rfl 16 rfl
       have BB11 := Lib.hid (Below.tr BB10.out hb)
       clear Eb Hb hb S10 BB10))
  have E11 : Hid (Sl w11 (fun k => k < w8.heap.size) (some (ad.add 114)) 16 (cx - 114) pubG) := by
    have h := S11.out.drop_ (m := 114) (A' := some (ad.add 114)) (by decide) (.inr rfl)
    rw [pubS_end] at h; exact h
  refine (Same_at E11.out D11.out (by decide) (by decide) true (by simp)).mono ?_
  rintro e w12 ⟨rfl, x12, rfl⟩
  go_wp2_with fail
  go_ret
  exact ⟨rfl, Below.tr BB11.out (Below.drN _ _)⟩
end Go.Proofs.Ytklclbppdoahjaa
/- Aead: AeadBack. -/
namespace Go.Proofs.Ytklclbppdoahjaa
set_option maxRecDepth 100000
open Go.RowKit
attribute [local go_sem] yld yldUpon_value

theorem old_up {w w' : World} (h : Below w.heap.size w w') : ∀ k, Old w k → k < w'.heap.size := fun _ hk => Nat.lt_of_lt_of_le hk h.size
set_option maxHeartbeats 8000000 in
theorem AeadBack_any (w : World) {ky nc : List UInt8} (hk : ky.length = 32) (hn : nc.length = 12) {A B : Option Addr} {n c m d : Nat} {head b : List UInt8} (h1 : Sl w (Old w) A n c head) (h2 : Sl w (Old w) B m d b) (hb1 : n ≤ 140737488355000) (hb2 : m ≤ 140737488355000) :
    Calls Try.prog 5 #[.agg (bs ky).toArray, .agg (bs nc).toArray, .slice A n c, .slice B m d] w fun e w' => e = .returned (.bool true) ∧ Below w.heap.size w w' := by
  have H1 := Lib.hid h1; have H2 := Lib.hid h2
  have L2 := Lib.hid h2.len
  clear h1 h2
  have HK := Lib.hid hk; have HN := Lib.hid hn
  have uK := Lib.hid Try.underlying23
  have uN := Lib.hid Try.underlying25
  have i1 : Hid ((Try.prog.info? 23).map (·.size) = some (bs ky).length) := by rw [bs_length, HK.out]; exact Try.sizeKey
  have i2 : Hid ((Try.prog.info? 25).map (·.size) = some (bs nc).length) := by rw [bs_length, HN.out]; exact Try.sizeN
  obtain ⟨w0, hw0⟩ : ∃ w0, w0 = (w.alloc (.cells (bs ky).toArray 23)).alloc (.cells (bs nc).toArray 25) := ⟨_, rfl⟩
  have X0 : Hid (Has w w0 [(w.heap.size + 1, .cells (bs nc).toArray 25 (0, 0)), (w.heap.size, .cells (bs ky).toArray 23 (0, 0))]) := by
    have h1 : Has w (w.alloc (.cells (bs ky).toArray 23)) [(w.heap.size, .cells (bs ky).toArray 23 (0, 0))] := (Has.start (Below.refl _ w)).new (Below.al _ _) (Nat.le_refl _) (heap_alloc_new w _)
    have h2 := heap_alloc_new (w.alloc (.cells (bs ky).toArray 23)) (.cells (bs nc).toArray 25)
    rw [World.size_alloc] at h2
    rw [hw0]
    exact h1.new (Below.al _ _) (by rw [World.size_alloc]; exact Nat.le_refl _) h2
  subst hw0
  clear hk hn
  obtain ⟨q, hq⟩ : ∃ q : Int, (if n < m then (m : Int) else (n : Int)) = q := ⟨_, rfl⟩
  go_enter Try.func5, Try.ntmps5
  by_cases hbig : 4096 < q
  · have HX := Lib.hid X0.out.bel
    clear X0
    go_wp2_with fail
    refine (works_any _).mono ?_
    rintro e w' ⟨rfl, hb⟩
    go_wp2_with fail
    go_ret
    exact ⟨rfl, Below.tr HX.out hb⟩
  have hbig2 : q ≤ 4096 := by omega
  have hn4 : Hid (n ≤ 4096 ∧ m ≤ 4096) := by show _ ∧ _; split at hq <;> omega
  clear hbig hb1 hb2
  go_wp2_with fail
  generalize (w.alloc (.cells (bs ky).toArray 23)).alloc (.cells (bs nc).toArray 25) = w0 at X0 ⊢
  refine (ANew_any w0).mono ?_
  rintro e w1 ⟨gc, rfl, hbc⟩
  have X1 := Lib.hid (X0.out.bl hbc)
  clear hbc X0 hq hbig2
  have r1 : Hid (w1.rangeAt w.heap.size 0 (bs ky)) := range_block (X1.out.get (by simp) : w1.heap[w.heap.size]? = some (.cells (bs ky).toArray 23 (0, 0)))
  have r2 : Hid (w1.rangeAt (w.heap.size + 1) 0 (bs nc)) := range_block (X1.out.get (by simp) : w1.heap[w.heap.size + 1]? = some (.cells (bs nc).toArray 25 (0, 0)))
  go_wp2_with (first
    | ((with_reducible refine lst_load_mid 23 (.tmp 4) rfl (w.heap.size) 0 rfl (bs ky) _ r1.out uK.out rfl i1.out ?_ ?_)
       (focus rfl))
    | ((with_reducible refine lst_load_mid 25 (.tmp 5) rfl (w.heap.size + 1) 0 rfl (bs nc) _ r2.out uN.out rfl i2.out ?_ ?_)
       (focus rfl)))
  clear r1 r2
  refine (Seal_any _ HK.out HN.out (H1.out.belF X1.out.bel (fun _ h => h)) (old_up X1.out.bel) (H2.out.belF X1.out.bel (fun _ h => h)) (old_up X1.out.bel) (Nat.le_trans hn4.out.1 (by decide)) (Nat.le_trans hn4.out.2 (by decide))).mono ?_
  rintro e w2 ⟨A2, n2, c2, rfl, ho2, hb2⟩
  have hn2 : Hid (n2 = m + 16) := by have h := ho2.1; rw [bs_length, sealL_len, L2.out] at h; show _ = _; omega
  have X2 := Lib.hid (X1.out.bl hb2)
  have S2 := Lib.hid (Sl.of_own ho2)
  clear ho2 hb2 X1
  have r1 : Hid (w2.rangeAt w.heap.size 0 (bs ky)) := range_block (X2.out.get (by simp) : w2.heap[w.heap.size]? = some (.cells (bs ky).toArray 23 (0, 0)))
  have r2 : Hid (w2.rangeAt (w.heap.size + 1) 0 (bs nc)) := range_block (X2.out.get (by simp) : w2.heap[w.heap.size + 1]? = some (.cells (bs nc).toArray 25 (0, 0)))
  go_wp2_with (first
    | ((with_reducible refine lst_load_mid 23 (.tmp 4) rfl (w.heap.size) 0 rfl (bs ky) _ r1.out uK.out rfl i1.out ?_ ?_)
       (focus rfl))
    | ((with_reducible refine lst_load_mid 25 (.tmp 5) rfl (w.heap.size + 1) 0 rfl (bs nc) _ r2.out uN.out rfl i2.out ?_ ?_)
       (focus rfl)))
  clear r1 r2
  refine (Open_any _ HK.out HN.out (H1.out.belF X2.out.bel (fun _ h => h)) (old_up X2.out.bel) S2.out (fun _ h => h.2.1) (Nat.le_trans hn4.out.1 (by decide)) (by have := hn4.out; have := hn2.out; omega)).mono ?_
  rw [open_seal]
  rintro e w3 ⟨⟨A3, n3, c3, rfl, ho3⟩, hb3⟩
  obtain rfl : m = n3 := by have h := ho3.1; simp only [Option.getD_some] at h; rw [bs_length, L2.out] at h; omega
  have X3 := Lib.hid (X2.out.bl hb3)
  have S3 := Lib.hid (Sl.of_own ho3)
  clear ho3 hb3 X2 S2
  have hm4 := hn4.out.2
  have hn2I : (m : Int) + 16 = (n2 : Int) := by have := hn2.out; omega
  go_wp2_with fail
  refine (Same_at S3.out (H2.out.belF X3.out.bel (fun _ h => h)) (by have := hn4.out; omega) (by have := hn4.out; omega) true (by simp)).mono ?_
  rintro e w4 ⟨rfl, x4, rfl⟩
  have X4 := Lib.hid (X3.out.bl (Below.drN w3 x4))
  generalize w3.drewN x4 = w4 at X4 ⊢
  clear X3 S3 hn2I
  have r1 : Hid (w4.rangeAt w.heap.size 0 (bs ky)) := range_block (X4.out.get (by simp) : w4.heap[w.heap.size]? = some (.cells (bs ky).toArray 23 (0, 0)))
  have r2 : Hid (w4.rangeAt (w.heap.size + 1) 0 (bs nc)) := range_block (X4.out.get (by simp) : w4.heap[w.heap.size + 1]? = some (.cells (bs nc).toArray 25 (0, 0)))
  go_wp2_with (first
    | ((with_reducible refine lst_load_mid 23 (.tmp 4) rfl (w.heap.size) 0 rfl (bs ky) _ r1.out uK.out rfl i1.out ?_ ?_)
       (focus rfl))
    | ((with_reducible refine lst_load_mid 25 (.tmp 5) rfl (w.heap.size + 1) 0 rfl (bs nc) _ r2.out uN.out rfl i2.out ?_ ?_)
       (focus rfl)))
  clear r1 r2
  refine (Open_any _ HK.out HN.out (H1.out.belF X4.out.bel (fun _ h => h)) (old_up X4.out.bel) (H2.out.belF X4.out.bel (fun _ h => h)) (old_up X4.out.bel) (Nat.le_trans hn4.out.1 (by decide)) (Nat.le_trans hn4.out.2 (by decide))).mono ?_
  rcases hop : openL ky nc head b with _ | p
  · rintro e w5 ⟨⟨A5, n5, c5, rfl, ho5⟩, hb5⟩
    obtain rfl : n5 = 0 := by have h := ho5.1; simpa [bs] using h.symm
    have X5 := Lib.hid (X4.out.bl hb5)
    clear ho5 hb5 X4
    go_wp2_with fail
    refine (works_any _).mono ?_
    rintro e w' ⟨rfl, hb⟩
    go_wp2_with fail
    go_ret
    exact ⟨rfl, Below.tr X5.out.bel hb⟩
  · have hpl := openL_len hop
    have hps := Lib.hid (seal_open hop)
    rintro e w5 ⟨⟨A5, n5, c5, rfl, ho5⟩, hb5⟩
    simp only [Option.getD_some] at ho5
    have hp5 : Hid (p.length = n5) := by have h := ho5.1; rw [bs_length] at h; show _ = _; omega
    have hmI : (m : Int) - 16 = (n5 : Int) := by have := hp5.out; have := L2.out; omega
    have X5 := Lib.hid (X4.out.bl hb5)
    have S5 := Lib.hid (Sl.of_own ho5)
    clear ho5 hb5 X4 hpl hop
    have r1 : Hid (w5.rangeAt w.heap.size 0 (bs ky)) := range_block (X5.out.get (by simp) : w5.heap[w.heap.size]? = some (.cells (bs ky).toArray 23 (0, 0)))
    have r2 : Hid (w5.rangeAt (w.heap.size + 1) 0 (bs nc)) := range_block (X5.out.get (by simp) : w5.heap[w.heap.size + 1]? = some (.cells (bs nc).toArray 25 (0, 0)))
    go_wp2_with (first
      | ((with_reducible refine lst_load_mid 23 (.tmp 4) rfl (w.heap.size) 0 rfl (bs ky) _ r1.out uK.out rfl i1.out ?_ ?_)
         (focus rfl))
      | ((with_reducible refine lst_load_mid 25 (.tmp 5) rfl (w.heap.size + 1) 0 rfl (bs nc) _ r2.out uN.out rfl i2.out ?_ ?_)
         (focus rfl)))
    clear r1 r2
    refine (Seal_any _ HK.out HN.out (H1.out.belF X5.out.bel (fun _ h => h)) (old_up X5.out.bel) S5.out (fun _ h => h.2.1) (Nat.le_trans hn4.out.1 (by decide)) (by have := hn4.out; omega)).mono ?_
    rw [hps.out]
    rintro e w6 ⟨A6, n6, c6, rfl, ho6, hb6⟩
    obtain rfl : m = n6 := by have h := ho6.1; rw [bs_length, L2.out] at h; omega
    have X6 := Lib.hid (X5.out.bl hb6)
    have S6 := Lib.hid (Sl.of_own ho6)
    clear ho6 hb6 X5 S5
    go_wp2_with fail
    refine (Same_at S6.out (H2.out.belF X6.out.bel (fun _ h => h)) (by have := hn4.out; omega) (by have := hn4.out; omega) true (by simp)).mono ?_
    rintro e w7 ⟨rfl, x7, rfl⟩
    go_wp2_with fail
    refine (works_any _).mono ?_
    rintro e w' ⟨rfl, hb⟩
    go_wp2_with fail
    go_ret
    exact ⟨rfl, Below.tr (Below.tr X6.out.bel (Below.drN _ _)) hb⟩
end Go.Proofs.Ytklclbppdoahjaa
/- Aead: AeadStream. -/
namespace Go.Proofs.Ytklclbppdoahjaa
set_option maxRecDepth 100000
open Go.RowKit
attribute [local go_sem] yld yldUpon_value

theorem run_max_int3_ {P : Program} (w : World) (ts : Array TypeId) (t : TypeId) (k k' k'' : IntKind) (x y z : Int) : (Builtin.max_ ts t #[.int k x, .int k' y, .int k'' z]).run P w = .ok (.int k (if (if x < y then y else x) < z then z else (if x < y then y else x))) w := by
  simp [Builtin.max_, Builtin.max2]
attribute [local go_sem] run_max_int3_
theorem Sl.some_ {w : World} {F : Nat → Prop} {A : Option Addr} {n c : Nat} {l : List UInt8} (h : Sl w F A n c l) (hn : 0 < n) : ∃ ad, A = some ad := by
  cases A with
  | some ad => exact ⟨ad, rfl⟩
  | none => have := (h.zero rfl).1; omega
set_option maxHeartbeats 8000000 in
theorem AeadStream_any (w : World) {ky nc : List UInt8} (hk : ky.length = 32) (hn : nc.length = 12) {A A' B : Option Addr} {n c n' c' m d : Nat} {head other b : List UInt8} (h1 : Sl w (Old w) A n c head) (h1' : Sl w (Old w) A' n' c' other) (h2 : Sl w (Old w) B m d b) (hb1 : n ≤ 140737488355000) (hb1' : n' ≤ 140737488355000) (hb2 : m ≤ 140737488355000) :
    Calls Try.prog 7 #[.agg (bs ky).toArray, .agg (bs nc).toArray, .slice A n c, .slice A' n' c', .slice B m d] w fun e w' => e = .returned (.bool true) ∧ Below w.heap.size w w' := by
  have H1 := Lib.hid h1; have H1' := Lib.hid h1'; have H2 := Lib.hid h2
  have L2 := Lib.hid h2.len
  clear h1 h1' h2
  have HK := Lib.hid hk; have HN := Lib.hid hn
  have uK := Lib.hid Try.underlying23
  have uN := Lib.hid Try.underlying25
  have i1 : Hid ((Try.prog.info? 23).map (·.size) = some (bs ky).length) := by rw [bs_length, HK.out]; exact Try.sizeKey
  have i2 : Hid ((Try.prog.info? 25).map (·.size) = some (bs nc).length) := by rw [bs_length, HN.out]; exact Try.sizeN
  obtain ⟨w0, hw0⟩ : ∃ w0, w0 = (w.alloc (.cells (bs ky).toArray 23)).alloc (.cells (bs nc).toArray 25) := ⟨_, rfl⟩
  have X0 : Hid (Has w w0 [(w.heap.size + 1, .cells (bs nc).toArray 25 (0, 0)), (w.heap.size, .cells (bs ky).toArray 23 (0, 0))]) := by
    have h1 : Has w (w.alloc (.cells (bs ky).toArray 23)) [(w.heap.size, .cells (bs ky).toArray 23 (0, 0))] := (Has.start (Below.refl _ w)).new (Below.al _ _) (Nat.le_refl _) (heap_alloc_new w _)
    have h2 := heap_alloc_new (w.alloc (.cells (bs ky).toArray 23)) (.cells (bs nc).toArray 25)
    rw [World.size_alloc] at h2
    rw [hw0]
    exact h1.new (Below.al _ _) (by rw [World.size_alloc]; exact Nat.le_refl _) h2
  subst hw0
  clear hk hn
  obtain ⟨q, hq⟩ : ∃ q : Int, (if (if n < n' then (n' : Int) else (n : Int)) < (m : Int) then (m : Int) else (if n < n' then (n' : Int) else (n : Int))) = q := ⟨_, rfl⟩
  go_enter Try.func7, Try.ntmps7
  by_cases hbig : 4096 < q
  · have HX := Lib.hid X0.out.bel
    clear X0
    go_wp2_with fail
    refine (works_any _).mono ?_
    rintro e w' ⟨rfl, hb⟩
    go_wp2_with fail
    go_ret
    exact ⟨rfl, Below.tr HX.out hb⟩
  have hbig2 : q ≤ 4096 := by omega
  have hn4 : Hid (n ≤ 4096 ∧ n' ≤ 4096 ∧ m ≤ 4096) := by show _ ∧ _ ∧ _; (repeat' split at hq) <;> omega
  clear hbig hb1 hb1' hb2
  go_wp2_with fail
  clear hq hbig2
  generalize (w.alloc (.cells (bs ky).toArray 23)).alloc (.cells (bs nc).toArray 25) = w0 at X0 ⊢
  have r1 : Hid (w0.rangeAt w.heap.size 0 (bs ky)) := range_block (X0.out.get (by simp) : w0.heap[w.heap.size]? = some (.cells (bs ky).toArray 23 (0, 0)))
  have r2 : Hid (w0.rangeAt (w.heap.size + 1) 0 (bs nc)) := range_block (X0.out.get (by simp) : w0.heap[w.heap.size + 1]? = some (.cells (bs nc).toArray 25 (0, 0)))
  have l1 := X0.out.lt (g := w.heap.size) (o := .cells (bs ky).toArray 23 (0, 0)) (by simp)
  have l2 := X0.out.lt (g := w.heap.size + 1) (o := .cells (bs nc).toArray 25 (0, 0)) (by simp)
  refine wp_calm ?_
  refine wp_region_os (fun _ w' => Below (w0).drew.heap.size (w0).drew w') [1, 2] (.take 1 (.take 2 (.move 3 (.move 4 (.run 0 [1, 2] (.run 5 [] (.move 6 .done))))))) (by kernel_rfl) (by kernel_rfl) (fun _ _ _ _ _ h => nomatch h.1) ?_
  have hS0 : Below (w0).drew.heap.size (w0).drew (w0).drew := Below.refl _ _
  refine os_load_mid 23 (.tmp 5) (w.heap.size) (0) (bs ky) _ hS0 rfl rfl rfl rfl rfl (uK.out) rfl (i1.out) (fun w' h => rangeAt_bel (range_dr (r1.out)) h l1) ⟨_, rfl, ?_⟩
  refine os_load_mid 25 (.tmp 6) (w.heap.size + 1) (0) (bs nc) _ hS0 rfl rfl rfl rfl rfl (uN.out) rfl (i2.out) (fun w' h => rangeAt_bel (range_dr (r2.out)) h l2) ⟨_, rfl, ?_⟩
  refine os_move rfl rfl rfl (Nat.le_of_ble_eq_true rfl) ?_
  apply Exists.intro
  refine ⟨fun w' K hK => ?_, ?_⟩
  (focus
    go_simp
    exact hK)
  refine os_move rfl rfl rfl (Nat.le_of_ble_eq_true rfl) ?_
  apply Exists.intro
  refine ⟨fun w' K hK => ?_, ?_⟩
  (focus
    go_simp
    exact hK)
  refine os_run rfl rfl (fun K hK => ?_)
  go_wp2_with fail
  refine (ANew_any _).mono ?_
  rintro e wq ⟨gq, rfl, hbq⟩
  go_wp2_with fail
  refine ⟨fun _ _ h => Below.tr h (hbq), ?_⟩
  replace hS0 := Below.tr hS0 (hbq)
  refine os_run rfl rfl (fun K hK => ?_)
  go_wp2_with fail
  refine (Seal_any _ HK.out HN.out (H1.out.belF (Below.tr X0.out.bel (Below.undr hS0)) (fun _ h => h)) (old_up (Below.tr X0.out.bel (Below.undr hS0))) (H2.out.belF (Below.tr X0.out.bel (Below.undr hS0)) (fun _ h => h)) (old_up (Below.tr X0.out.bel (Below.undr hS0))) (Nat.le_trans hn4.out.1 (by decide)) (Nat.le_trans hn4.out.2.2 (by decide))).mono ?_
  rintro e w1 ⟨A1, n1, c1, rfl, ho1, hbx⟩
  go_wp2_with fail
  refine ⟨fun _ hk => absurd hk List.not_mem_nil, ?_⟩
  replace hS0 := Below.tr hS0 (hbx)
  refine os_move rfl rfl rfl (Nat.le_of_ble_eq_true rfl) ?_
  apply Exists.intro
  refine ⟨fun w' K hK => ?_, ?_⟩
  (focus
    go_simp
    exact hK)
  refine os_done ⟨rfl, ?_⟩
  have hn1 : Hid (n1 = m + 16) := by have h := ho1.1; rw [bs_length, sealL_len, L2.out] at h; show _ = _; omega
  have X1 := Lib.hid (X0.out.bl (Below.undr hS0))
  have S1 := Lib.hid (Sl.of_own ho1)
  clear hS0 ho1 X0 r1 r2 l1 l2
  go_wp2_with fail
  have r1 : Hid (w1.rangeAt w.heap.size 0 (bs ky)) := range_block (X1.out.get (by simp) : w1.heap[w.heap.size]? = some (.cells (bs ky).toArray 23 (0, 0)))
  have r2 : Hid (w1.rangeAt (w.heap.size + 1) 0 (bs nc)) := range_block (X1.out.get (by simp) : w1.heap[w.heap.size + 1]? = some (.cells (bs nc).toArray 25 (0, 0)))
  have l1 := X1.out.lt (g := w.heap.size) (o := .cells (bs ky).toArray 23 (0, 0)) (by simp)
  have l2 := X1.out.lt (g := w.heap.size + 1) (o := .cells (bs nc).toArray 25 (0, 0)) (by simp)
  refine wp_calm ?_
  refine wp_region_os (fun _ w' => Below (w1).drew.heap.size (w1).drew w') [1, 2] (.take 1 (.take 2 (.move 3 (.move 4 (.run 0 [1, 2] (.run 5 [] (.move 6 .done))))))) (by kernel_rfl) (by kernel_rfl) (fun _ _ _ _ _ h => nomatch h.1) ?_
  have hS0 : Below (w1).drew.heap.size (w1).drew (w1).drew := Below.refl _ _
  refine os_load_mid 23 (.tmp 5) (w.heap.size) (0) (bs ky) _ hS0 rfl rfl rfl rfl rfl (uK.out) rfl (i1.out) (fun w' h => rangeAt_bel (range_dr (r1.out)) h l1) ⟨_, rfl, ?_⟩
  refine os_load_mid 25 (.tmp 6) (w.heap.size + 1) (0) (bs nc) _ hS0 rfl rfl rfl rfl rfl (uN.out) rfl (i2.out) (fun w' h => rangeAt_bel (range_dr (r2.out)) h l2) ⟨_, rfl, ?_⟩
  refine os_move rfl rfl rfl (Nat.le_of_ble_eq_true rfl) ?_
  apply Exists.intro
  refine ⟨fun w' K hK => ?_, ?_⟩
  (focus
    go_simp
    exact hK)
  refine os_move rfl rfl rfl (Nat.le_of_ble_eq_true rfl) ?_
  apply Exists.intro
  refine ⟨fun w' K hK => ?_, ?_⟩
  (focus
    go_simp
    exact hK)
  refine os_run rfl rfl (fun K hK => ?_)
  go_wp2_with fail
  refine (ANew_any _).mono ?_
  rintro e wq ⟨gq, rfl, hbq⟩
  go_wp2_with fail
  refine ⟨fun _ _ h => Below.tr h (hbq), ?_⟩
  replace hS0 := Below.tr hS0 (hbq)
  refine os_run rfl rfl (fun K hK => ?_)
  go_wp2_with fail
  refine (Seal_any _ HK.out HN.out (H1'.out.belF (Below.tr X1.out.bel (Below.undr hS0)) (fun _ h => h)) (old_up (Below.tr X1.out.bel (Below.undr hS0))) (H2.out.belF (Below.tr X1.out.bel (Below.undr hS0)) (fun _ h => h)) (old_up (Below.tr X1.out.bel (Below.undr hS0))) (Nat.le_trans hn4.out.2.1 (by decide)) (Nat.le_trans hn4.out.2.2 (by decide))).mono ?_
  rintro e w2 ⟨A2, n2, c2, rfl, ho2, hbx⟩
  go_wp2_with fail
  refine ⟨fun _ hk => absurd hk List.not_mem_nil, ?_⟩
  replace hS0 := Below.tr hS0 (hbx)
  refine os_move rfl rfl rfl (Nat.le_of_ble_eq_true rfl) ?_
  apply Exists.intro
  refine ⟨fun w' K hK => ?_, ?_⟩
  (focus
    go_simp
    exact hK)
  refine os_done ⟨rfl, ?_⟩
  obtain rfl : n2 = n1 := by have h := ho2.1; rw [bs_length, sealL_len, L2.out] at h; have := hn1.out; omega
  have X2 := Lib.hid (X1.out.bl (Below.undr hS0))
  have S2 := Lib.hid (Sl.of_own ho2)
  have T2 := Lib.hid (S1.out.belF (Below.undr hS0) (fun k h => h.2.1))
  have U2 : Hid (w1.heap.size ≤ w2.heap.size) := (Below.undr hS0).size
  clear hS0 ho2 X1 r1 r2 l1 l2 S1
  have r1 : Hid (w2.rangeAt w.heap.size 0 (bs ky)) := range_block (X2.out.get (by simp) : w2.heap[w.heap.size]? = some (.cells (bs ky).toArray 23 (0, 0)))
  have r2 : Hid (w2.rangeAt (w.heap.size + 1) 0 (bs nc)) := range_block (X2.out.get (by simp) : w2.heap[w.heap.size + 1]? = some (.cells (bs nc).toArray 25 (0, 0)))
  go_wp2_with (first
    | ((with_reducible refine lst_load_mid 23 (.tmp 5) rfl (w.heap.size) 0 rfl (bs ky) _ r1.out uK.out rfl i1.out ?_ ?_)
       (focus rfl))
    | ((with_reducible refine lst_load_mid 25 (.tmp 6) rfl (w.heap.size + 1) 0 rfl (bs nc) _ r2.out uN.out rfl i2.out ?_ ?_)
       (focus rfl)))
  clear r1 r2
  refine (Xor_any w2 ky nc 1 HK.out HN.out (H2.out.belF X2.out.bel (fun _ h => h)) (old_up X2.out.bel) (Nat.le_trans hn4.out.2.2 (by decide))).mono ?_
  rintro e w3 ⟨A3, c3, rfl, ho3, hb3⟩
  have X3 := Lib.hid (X2.out.bl hb3)
  have S3 := Lib.hid (Sl.of_own ho3)
  have V3 := Lib.hid (S2.out.belF hb3 (fun k h => h.2.1))
  have T3 := Lib.hid (T2.out.belF hb3 (fun k h => Nat.lt_of_lt_of_le h.2.1 U2.out))
  clear ho3 hb3 S2 T2 U2 X2
  obtain ⟨a1, rfl⟩ := T3.out.some_ (by have := hn1.out; omega)
  obtain ⟨a2, rfl⟩ := V3.out.some_ (by have := hn1.out; omega)
  have p1 := Lib.hid (show Sl w3 _ (some a1) m c1 (xorP ky 1 nc b) from Sl.take_ (l' := aeadTag ky nc head (streamL ky nc b)) T3.out (by rw [xorP_len]; exact L2.out))
  have p2 := Lib.hid (show Sl w3 _ (some a2) m c2 (xorP ky 1 nc b) from Sl.take_ (l' := aeadTag ky nc other (streamL ky nc b)) V3.out (by rw [xorP_len]; exact L2.out))
  have hc1 : m ≤ c1 := by have := T3.out.cap; have := hn1.out; omega
  have hc2 : m ≤ c2 := by have := V3.out.cap; have := hn1.out; omega
  have hm4 := hn4.out.2.2
  have hn1I : (m : Int) + 16 = (n2 : Int) := by have := hn1.out; omega
  go_wp2_with fail
  refine (Same_at p1.out S3.out (by have := hn4.out; omega) (by have := hn4.out; omega) true (by simp)).mono ?_
  rintro e w' ⟨rfl, x1, rfl⟩
  go_wp2_with fail
  refine (Same_at (p2.out.dr x1) (S3.out.dr x1) (by have := hn4.out; omega) (by have := hn4.out; omega) true (by simp)).mono ?_
  rintro e w' ⟨rfl, x2, rfl⟩
  go_wp2_with fail
  by_cases hho : head = other
  · refine (Same_at ((H1.out.belF X3.out.bel (fun _ h => h)).dr _) ((H1'.out.belF X3.out.bel (fun _ h => h)).dr _) (by have := hn4.out; omega) (by have := hn4.out; omega) true (by simp [hho])).mono ?_
    rintro e w' ⟨rfl, x3, rfl⟩
    go_wp2_with fail
    refine (Same_at (T3.out.dr _) (V3.out.dr _) (by have := hn4.out; omega) (by have := hn4.out; omega) true (by simp [hho])).mono ?_
    rintro e w' ⟨rfl, x4, rfl⟩
    go_wp2_with fail
    refine (works_any _).mono ?_
    rintro e w' ⟨rfl, hb⟩
    go_wp2_with fail
    go_ret
    exact ⟨rfl, Below.tr (Below.tr X3.out.bel (Below.drN _ _)) hb⟩
  · refine (Same_at ((H1.out.belF X3.out.bel (fun _ h => h)).dr _) ((H1'.out.belF X3.out.bel (fun _ h => h)).dr _) (by have := hn4.out; omega) (by have := hn4.out; omega) false (by simp [hho])).mono ?_
    rintro e w' ⟨rfl, x3, rfl⟩
    go_wp2_with fail
    refine (works_any _).mono ?_
    rintro e w' ⟨rfl, hb⟩
    go_wp2_with fail
    go_ret
    exact ⟨rfl, Below.tr (Below.tr X3.out.bel (Below.drN _ _)) hb⟩
end Go.Proofs.Ytklclbppdoahjaa
/- AeadSeals. -/
namespace Go.Proofs.Ytklclbppdoahjaa
set_option maxRecDepth 100000
open Go.RowKit
attribute [local go_sem] yld yldUpon_value

set_option maxRecDepth 100000 in
set_option maxHeartbeats 8000000 in
theorem AeadSeals_any (w : World) {ky nc : List UInt8} (hk : ky.length = 32) (hn : nc.length = 12) {A B : Option Addr} {n c m d : Nat} {head b : List UInt8} (h1 : Sl w (Old w) A n c head) (h2 : Sl w (Old w) B m d b) (hb1 : n ≤ 140737488355000) (hb2 : m ≤ 140737488355000) :
    Calls Try.prog 3 #[.agg (bs ky).toArray, .agg (bs nc).toArray, .slice A n c, .slice B m d] w fun e w' => e = .returned (.bool true) ∧ Below w.heap.size w w' := by
  have H1 := Lib.hid h1; have H2 := Lib.hid h2
  have L1 := Lib.hid h1.len; have L2 := Lib.hid h2.len
  clear h1 h2
  have HK := Lib.hid hk; have HN := Lib.hid hn
  have uK := Lib.hid Try.underlying23
  have uN := Lib.hid Try.underlying25
  have i1 : Hid ((Try.prog.info? 23).map (·.size) = some (bs ky).length) := by rw [bs_length, HK.out]; exact Try.sizeKey
  have i2 : Hid ((Try.prog.info? 25).map (·.size) = some (bs nc).length) := by rw [bs_length, HN.out]; exact Try.sizeN
  obtain ⟨w0, hw0⟩ : ∃ w0, w0 = (w.alloc (.cells (bs ky).toArray 23)).alloc (.cells (bs nc).toArray 25) := ⟨_, rfl⟩
  have X0 : Hid (Has w w0 [(w.heap.size + 1, .cells (bs nc).toArray 25 (0, 0)), (w.heap.size, .cells (bs ky).toArray 23 (0, 0))]) := by
    have h1 : Has w (w.alloc (.cells (bs ky).toArray 23)) [(w.heap.size, .cells (bs ky).toArray 23 (0, 0))] := (Has.start (Below.refl _ w)).new (Below.al _ _) (Nat.le_refl _) (heap_alloc_new w _)
    have h2 := heap_alloc_new (w.alloc (.cells (bs ky).toArray 23)) (.cells (bs nc).toArray 25)
    rw [World.size_alloc] at h2
    rw [hw0]
    exact h1.new (Below.al _ _) (by rw [World.size_alloc]; exact Nat.le_refl _) h2
  subst hw0
  clear hk hn
  obtain ⟨q, hq⟩ : ∃ q : Int, (if n < m then (m : Int) else (n : Int)) = q := ⟨_, rfl⟩
  go_enter Try.func3, Try.ntmps3
  by_cases hbig : 4096 < q
  · have HX := Lib.hid X0.out.bel
    clear X0
    go_wp2_with fail
    refine (works_any _).mono ?_
    rintro e w' ⟨rfl, hb⟩
    go_wp2_with fail
    go_ret
    exact ⟨rfl, Below.tr HX.out hb⟩
  have hbig2 : q ≤ 4096 := by omega
  have hn4 : Hid (n ≤ 4096 ∧ m ≤ 4096) := by show _ ∧ _; split at hq <;> omega
  clear hbig hb1 hb2
  go_wp2_with fail
  clear hq hbig2
  generalize (w.alloc (.cells (bs ky).toArray 23)).alloc (.cells (bs nc).toArray 25) = w0 at X0 ⊢
  have hm4 := hn4.out.1
  have hm4' := hn4.out.2
  have S1 := Lib.hid (H1.out.belF X0.out.bel (fun _ h => h))
  refine (LentBytes_sl S1.out (old_up X0.out.bel) (by omega)).mono ?_
  rintro e w1 ⟨gx, cx, rfl, hox, hbx⟩
  have OX := Lib.hid (Sl.of_own hox)
  have X1 := Lib.hid (X0.out.bl hbx)
  clear hox hbx X0 S1
  go_wp2_with fail
  have S2 := Lib.hid (H2.out.belF X1.out.bel (fun _ h => h))
  refine (LentBytes_sl S2.out (old_up X1.out.bel) (by omega)).mono ?_
  rintro e w2 ⟨gy, cy, rfl, hoy, hby⟩
  have OY := Lib.hid (Sl.of_own hoy)
  have X2 := Lib.hid (X1.out.bl hby)
  have OX2 := Lib.hid (OX.out.belF hby (fun k hk => hk.2.1))
  have Z12 : Hid (w1.heap.size ≤ w2.heap.size) := hby.size
  clear hoy hby X1 S2 OX
  go_wp2_with fail
  refine (ANew_any w2).mono ?_
  rintro e w3 ⟨gc, rfl, hbc⟩
  have X := Lib.hid (X2.out.bl hbc)
  have PXm : Hid (Sl w3 (fun k => k < w1.heap.size) (some ⟨gx, 0, none⟩) (n + 5) cx (head ++ marks)) := (OX2.out.belF hbc (fun k hk => Nat.lt_of_lt_of_le hk.2.1 Z12.out)).mono (fun k hk => hk.2.1)
  have PYm : Hid (Sl w3 (fun k => k < w2.heap.size) (some ⟨gy, 0, none⟩) (m + 5) cy (b ++ marks)) := (OY.out.belF hbc (fun k hk => hk.2.1)).mono (fun k hk => hk.2.1)
  have PX : Hid (Sl w3 (fun k => k < w1.heap.size) (some ⟨gx, 0, none⟩) n cx head) := Sl.take_ PXm.out L1.out
  have PY : Hid (Sl w3 (fun k => k < w2.heap.size) (some ⟨gy, 0, none⟩) m cy b) := Sl.take_ PYm.out L2.out
  have XL : Hid (∀ p ∈ ([(w.heap.size + 1, .cells (bs nc).toArray 25 (0, 0)), (w.heap.size, .cells (bs ky).toArray 23 (0, 0))] : List (Nat × Obj)), p.1 < w3.heap.size) := Lib.hid (fun p hp => X.out.lt (g := p.1) (o := p.2) hp)
  have XZ : Hid (w.heap.size ≤ w3.heap.size) := X.out.bel.size
  have ZX3 : Hid (w1.heap.size ≤ w3.heap.size) := Nat.le_trans Z12.out hbc.size
  have ZY3 : Hid (w2.heap.size ≤ w3.heap.size) := hbc.size
  have ZX : Hid (w1.heap.size ≤ w3.heap.size) := Nat.le_trans Z12.out hbc.size
  have ZY : Hid (w2.heap.size ≤ w3.heap.size) := hbc.size
  have hcx : n ≤ cx := PX.out.cap
  have hcy : m ≤ cy := PY.out.cap
  clear hbc X2 OX2 OY
  go_wp2_with fail
  have r1 : Hid (w3.rangeAt w.heap.size 0 (bs ky)) := range_block (X.out.get (by simp) : w3.heap[w.heap.size]? = some (.cells (bs ky).toArray 23 (0, 0)))
  have r2 : Hid (w3.rangeAt (w.heap.size + 1) 0 (bs nc)) := range_block (X.out.get (by simp) : w3.heap[w.heap.size + 1]? = some (.cells (bs nc).toArray 25 (0, 0)))
  have l1 := X.out.lt (g := w.heap.size) (o := .cells (bs ky).toArray 23 (0, 0)) (by simp)
  have l2 := X.out.lt (g := w.heap.size + 1) (o := .cells (bs nc).toArray 25 (0, 0)) (by simp)
  refine wp_calm ?_
  refine wp_region_os (fun _ w' => Below (w3).drew.heap.size (w3).drew w') [1, 2] (.move 0 (.take 1 (.take 2 (.move 3 (.move 4 (.move 5 (.move 6 (.move 7 (.move 8 (.move 9 (.move 10 (.run 11 [] (.move 12 .done))))))))))))) (by kernel_rfl) (by kernel_rfl) (fun _ _ _ _ _ h => nomatch h.1) ?_
  have hS0 : Below (w3).drew.heap.size (w3).drew (w3).drew := Below.refl _ _
  refine os_move rfl rfl rfl (Nat.le_of_ble_eq_true rfl) ?_
  apply Exists.intro
  refine ⟨fun w' K hK => ?_, ?_⟩
  (focus
    go_simp
    exact hK)
  refine os_load_mid 23 (.tmp 4) (w.heap.size) (0) (bs ky) _ hS0 rfl rfl rfl rfl rfl (uK.out) rfl (i1.out) (fun w' h => rangeAt_bel (range_dr (r1.out)) h l1) ⟨_, rfl, ?_⟩
  refine os_load_mid 25 (.tmp 5) (w.heap.size + 1) (0) (bs nc) _ hS0 rfl rfl rfl rfl rfl (uN.out) rfl (i2.out) (fun w' h => rangeAt_bel (range_dr (r2.out)) h l2) ⟨_, rfl, ?_⟩
  refine os_move rfl rfl rfl (Nat.le_of_ble_eq_true rfl) ?_
  apply Exists.intro
  refine ⟨fun w' K hK => ?_, ?_⟩
  (focus
    go_simp
    exact hK)
  refine os_move rfl rfl rfl (Nat.le_of_ble_eq_true rfl) ?_
  apply Exists.intro
  refine ⟨fun w' K hK => ?_, ?_⟩
  (focus
    go_simp
    exact hK)
  refine os_move rfl rfl rfl (Nat.le_of_ble_eq_true rfl) ?_
  apply Exists.intro
  refine ⟨fun w' K hK => ?_, ?_⟩
  (focus
    go_simp
    exact hK)
  refine os_move rfl rfl rfl (Nat.le_of_ble_eq_true rfl) ?_
  apply Exists.intro
  refine ⟨fun w' K hK => ?_, ?_⟩
  (focus
    go_simp
    exact hK)
  refine os_move rfl rfl rfl (Nat.le_of_ble_eq_true rfl) ?_
  apply Exists.intro
  refine ⟨fun w' K hK => ?_, ?_⟩
  (focus
    go_simp
    exact hK)
  refine os_move rfl rfl rfl (Nat.le_of_ble_eq_true rfl) ?_
  apply Exists.intro
  refine ⟨fun w' K hK => ?_, ?_⟩
  (focus
    go_simp
    exact hK)
  refine os_move rfl rfl rfl (Nat.le_of_ble_eq_true rfl) ?_
  apply Exists.intro
  refine ⟨fun w' K hK => ?_, ?_⟩
  (focus
    go_simp
    exact hK)
  refine os_move rfl rfl rfl (Nat.le_of_ble_eq_true rfl) ?_
  apply Exists.intro
  refine ⟨fun w' K hK => ?_, ?_⟩
  (focus
    go_simp
    exact hK)
  refine os_run rfl rfl (fun K hK => ?_)
  go_wp2_with fail
  refine (Seal_any _ HK.out HN.out (PX.out.belF (Below.undr hS0) (fun k hk => Nat.lt_of_lt_of_le hk ZX.out)) (fun k hk => Nat.lt_of_lt_of_le hk (Nat.le_trans ZX.out (Below.undr hS0).size)) (PY.out.belF (Below.undr hS0) (fun k hk => Nat.lt_of_lt_of_le hk ZY.out)) (fun k hk => Nat.lt_of_lt_of_le hk (Nat.le_trans ZY.out (Below.undr hS0).size)) (by have := hn4.out; omega) (by have := hn4.out; omega)).mono ?_
  rintro e w4 ⟨Aw4, nw4, cw4, rfl, ho, hbx⟩
  go_wp2_with fail
  refine ⟨fun _ hk => absurd hk List.not_mem_nil, ?_⟩
  replace hS0 := Below.tr hS0 (hbx)
  refine os_move rfl rfl rfl (Nat.le_of_ble_eq_true rfl) ?_
  apply Exists.intro
  refine ⟨fun w' K hK => ?_, ?_⟩
  (focus
    go_simp
    exact hK)
  refine os_done ⟨rfl, ?_⟩
  have S4 := Lib.hid (Sl.of_own ho)
  have O4 := Lib.hid ho
  have BK4 : Hid (∀ j, (Value.slice Aw4 nw4 cw4).ownBlock = some j → w3.heap.size ≤ j ∧ j < w4.heap.size) := Lib.hid (fun j hj => ho.lt j hj)
  have N4 : Hid (nw4 = m + 16) := by have h := ho.1; rw [bs_length, sealL_len, L2.out] at h; show _ = _; omega
  have Z34 : Hid (w3.heap.size ≤ w4.heap.size) := (Below.undr hS0).size
  replace X := Lib.hid (X.out.bl (Below.undr hS0))
  replace PX := Lib.hid (PX.out.belF (Below.undr hS0) (fun k hk => Nat.lt_of_lt_of_le hk ZX.out))
  replace PY := Lib.hid (PY.out.belF (Below.undr hS0) (fun k hk => Nat.lt_of_lt_of_le hk ZY.out))
  replace PXm := Lib.hid (PXm.out.belF (Below.undr hS0) (fun k hk => Nat.lt_of_lt_of_le hk ZX.out))
  replace PYm := Lib.hid (PYm.out.belF (Below.undr hS0) (fun k hk => Nat.lt_of_lt_of_le hk ZY.out))
  replace ZX : Hid (w1.heap.size ≤ w4.heap.size) := Nat.le_trans ZX.out Z34.out
  replace ZY : Hid (w2.heap.size ≤ w4.heap.size) := Nat.le_trans ZY.out Z34.out
  clear hS0 ho r1 r2 l1 l2 hbx
  go_wp2_with fail
  have r1 : Hid (w4.rangeAt w.heap.size 0 (bs ky)) := range_block (X.out.get (by simp) : w4.heap[w.heap.size]? = some (.cells (bs ky).toArray 23 (0, 0)))
  have r2 : Hid (w4.rangeAt (w.heap.size + 1) 0 (bs nc)) := range_block (X.out.get (by simp) : w4.heap[w.heap.size + 1]? = some (.cells (bs nc).toArray 25 (0, 0)))
  have l1 := X.out.lt (g := w.heap.size) (o := .cells (bs ky).toArray 23 (0, 0)) (by simp)
  have l2 := X.out.lt (g := w.heap.size + 1) (o := .cells (bs nc).toArray 25 (0, 0)) (by simp)
  refine wp_calm ?_
  refine wp_region_os (fun _ w' => Below (w4).drew.heap.size (w4).drew w') [1, 2] (.move 0 (.take 1 (.take 2 (.move 3 (.move 4 (.move 5 (.move 6 (.move 7 (.move 8 (.move 9 (.move 10 (.run 11 [] (.move 12 .done))))))))))))) (by kernel_rfl) (by kernel_rfl) (fun _ _ _ _ _ h => nomatch h.1) ?_
  have hS0 : Below (w4).drew.heap.size (w4).drew (w4).drew := Below.refl _ _
  refine os_move rfl rfl rfl (Nat.le_of_ble_eq_true rfl) ?_
  apply Exists.intro
  refine ⟨fun w' K hK => ?_, ?_⟩
  (focus
    go_simp
    exact hK)
  refine os_load_mid 23 (.tmp 4) (w.heap.size) (0) (bs ky) _ hS0 rfl rfl rfl rfl rfl (uK.out) rfl (i1.out) (fun w' h => rangeAt_bel (range_dr (r1.out)) h l1) ⟨_, rfl, ?_⟩
  refine os_load_mid 25 (.tmp 5) (w.heap.size + 1) (0) (bs nc) _ hS0 rfl rfl rfl rfl rfl (uN.out) rfl (i2.out) (fun w' h => rangeAt_bel (range_dr (r2.out)) h l2) ⟨_, rfl, ?_⟩
  refine os_move rfl rfl rfl (Nat.le_of_ble_eq_true rfl) ?_
  apply Exists.intro
  refine ⟨fun w' K hK => ?_, ?_⟩
  (focus
    go_simp
    exact hK)
  refine os_move rfl rfl rfl (Nat.le_of_ble_eq_true rfl) ?_
  apply Exists.intro
  refine ⟨fun w' K hK => ?_, ?_⟩
  (focus
    go_simp
    exact hK)
  refine os_move rfl rfl rfl (Nat.le_of_ble_eq_true rfl) ?_
  apply Exists.intro
  refine ⟨fun w' K hK => ?_, ?_⟩
  (focus
    go_simp
    exact hK)
  refine os_move rfl rfl rfl (Nat.le_of_ble_eq_true rfl) ?_
  apply Exists.intro
  refine ⟨fun w' K hK => ?_, ?_⟩
  (focus
    go_simp
    exact hK)
  refine os_move rfl rfl rfl (Nat.le_of_ble_eq_true rfl) ?_
  apply Exists.intro
  refine ⟨fun w' K hK => ?_, ?_⟩
  (focus
    go_simp
    exact hK)
  refine os_move rfl rfl rfl (Nat.le_of_ble_eq_true rfl) ?_
  apply Exists.intro
  refine ⟨fun w' K hK => ?_, ?_⟩
  (focus
    go_simp
    exact hK)
  refine os_move rfl rfl rfl (Nat.le_of_ble_eq_true rfl) ?_
  apply Exists.intro
  refine ⟨fun w' K hK => ?_, ?_⟩
  (focus
    go_simp
    exact hK)
  refine os_move rfl rfl rfl (Nat.le_of_ble_eq_true rfl) ?_
  apply Exists.intro
  refine ⟨fun w' K hK => ?_, ?_⟩
  (focus
    go_simp
    exact hK)
  refine os_run rfl rfl (fun K hK => ?_)
  go_wp2_with fail
  refine (Seal_any _ HK.out HN.out (PX.out.belF (Below.undr hS0) (fun k hk => Nat.lt_of_lt_of_le hk ZX.out)) (fun k hk => Nat.lt_of_lt_of_le hk (Nat.le_trans ZX.out (Below.undr hS0).size)) (PY.out.belF (Below.undr hS0) (fun k hk => Nat.lt_of_lt_of_le hk ZY.out)) (fun k hk => Nat.lt_of_lt_of_le hk (Nat.le_trans ZY.out (Below.undr hS0).size)) (by have := hn4.out; omega) (by have := hn4.out; omega)).mono ?_
  rintro e w5 ⟨Aw5, nw5, cw5, rfl, ho, hbx⟩
  go_wp2_with fail
  refine ⟨fun _ hk => absurd hk List.not_mem_nil, ?_⟩
  replace hS0 := Below.tr hS0 (hbx)
  refine os_move rfl rfl rfl (Nat.le_of_ble_eq_true rfl) ?_
  apply Exists.intro
  refine ⟨fun w' K hK => ?_, ?_⟩
  (focus
    go_simp
    exact hK)
  refine os_done ⟨rfl, ?_⟩
  have S5 : Hid (Sl w5 (fun k => w4.heap.size ≤ k ∧ k < w5.heap.size) Aw5 nw5 cw5 (sealL ky nc head b)) := (Sl.of_own ho).mono (fun k hk => ⟨hk.1, hk.2.1⟩)
  have N5 : Hid (nw5 = m + 16) := by have h := ho.1; rw [bs_length, sealL_len, L2.out] at h; show _ = _; omega
  have Z45 : Hid (w4.heap.size ≤ w5.heap.size) := (Below.undr hS0).size
  replace O4 := Lib.hid (own_fr O4.out (Fr.of_below (M := NoB) (Below.undr hS0)) (fun _ _ e => e))
  replace S4 : Hid (Sl w5 (fun k => w3.heap.size ≤ k ∧ k < w4.heap.size) Aw4 nw4 cw4 (sealL ky nc head b)) := (S4.out.belF (Below.undr hS0) (fun k hk => hk.2.1)).mono (fun k hk => ⟨hk.1, hk.2.1⟩)
  have bk4 : Hid (∀ j, (Value.slice Aw4 nw4 cw4).ownBlock = some j → w3.heap.size ≤ j ∧ j < w4.heap.size) := BK4
  clear BK4
  replace X := Lib.hid (X.out.bl (Below.undr hS0))
  replace PX := Lib.hid (PX.out.belF (Below.undr hS0) (fun k hk => Nat.lt_of_lt_of_le hk ZX.out))
  replace PY := Lib.hid (PY.out.belF (Below.undr hS0) (fun k hk => Nat.lt_of_lt_of_le hk ZY.out))
  replace PXm := Lib.hid (PXm.out.belF (Below.undr hS0) (fun k hk => Nat.lt_of_lt_of_le hk ZX.out))
  replace PYm := Lib.hid (PYm.out.belF (Below.undr hS0) (fun k hk => Nat.lt_of_lt_of_le hk ZY.out))
  replace ZX : Hid (w1.heap.size ≤ w5.heap.size) := Nat.le_trans ZX.out Z45.out
  replace ZY : Hid (w2.heap.size ≤ w5.heap.size) := Nat.le_trans ZY.out Z45.out
  clear hS0 ho r1 r2 l1 l2 hbx
  have r1 : Hid ((w5.alloc (.cells #[] 34)).rangeAt w.heap.size 0 (bs ky)) := range_block (heap_bel (X.out.get (by simp) : w5.heap[w.heap.size]? = some (.cells (bs ky).toArray 23 (0, 0))) (Below.al _ _))
  have r2 : Hid ((w5.alloc (.cells #[] 34)).rangeAt (w.heap.size + 1) 0 (bs nc)) := range_block (heap_bel (X.out.get (by simp) : w5.heap[w.heap.size + 1]? = some (.cells (bs nc).toArray 25 (0, 0))) (Below.al _ _))
  go_wp2_with (first
    | ((with_reducible refine lst_load_mid 23 (.tmp 4) rfl (w.heap.size) 0 rfl (bs ky) _ r1.out uK.out rfl i1.out ?_ ?_)
       (focus rfl))
    | ((with_reducible refine lst_load_mid 25 (.tmp 5) rfl (w.heap.size + 1) 0 rfl (bs nc) _ r2.out uN.out rfl i2.out ?_ ?_)
       (focus rfl)))
  clear r1 r2
  have Xa := Lib.hid (X.out.bl (Below.al w5 (.cells #[] 34)))
  refine (rSeal_any _ HK.out HN.out (H1.out.belF Xa.out.bel (fun _ h => h)) (old_up Xa.out.bel) (H2.out.belF Xa.out.bel (fun _ h => h)) (old_up Xa.out.bel) (by have := hn4.out; omega) (by have := hn4.out; omega)).mono ?_
  rintro e w6 ⟨Aw6, nw6, cw6, rfl, ho, hb6⟩
  have N6 : Hid (nw6 = m + 16) := by have h := ho.1; rw [bs_length, sealL_len, L2.out] at h; show _ = _; omega
  have b56 : Below w5.heap.size w5 w6 := Below.tr (Below.al _ _) hb6
  have S6 : Hid (Sl w6 (fun k => w5.heap.size ≤ k ∧ k < w6.heap.size) Aw6 nw6 cw6 (sealL ky nc head b)) := (Sl.of_own ho).mono (fun k hk => ⟨Nat.le_trans (Below.al w5 _).size hk.1, hk.2.1⟩)
  have Z56 : Hid (w5.heap.size ≤ w6.heap.size) := b56.size
  replace X := Lib.hid (X.out.bl b56)
  replace O4 := Lib.hid (own_fr O4.out (Fr.of_below (M := NoB) b56) (fun _ _ e => e))
  replace S4 := Lib.hid (S4.out.belF b56 (fun k hk => Nat.lt_of_lt_of_le hk.2 Z45.out))
  replace S5 := Lib.hid (S5.out.belF b56 (fun k hk => hk.2))
  replace PXm := Lib.hid (PXm.out.belF b56 (fun k hk => Nat.lt_of_lt_of_le hk ZX.out))
  replace PYm := Lib.hid (PYm.out.belF b56 (fun k hk => Nat.lt_of_lt_of_le hk ZY.out))
  clear b56 ho hb6 Xa PX PY
  go_wp2_with fail
  refine (Same_at S4.out S6.out (by have := hn4.out; have := N4.out; omega) (by have := hn4.out; have := N6.out; omega) true (by simp)).mono ?_
  rintro e w' ⟨rfl, x1, rfl⟩
  have X7 := Lib.hid (X.out.bl (Below.drN w6 x1))
  have P7 : Hid ((w6.drewN x1).ownsRow w3.drew.heap.size 5 1 (.slice Aw4 nw4 cw4) nw4 (bs (sealL ky nc head b))) := O4.out
  have S5b := Lib.hid (S5.out.dr x1)
  have S6b := Lib.hid (S6.out.dr x1)
  have PXb := Lib.hid (PXm.out.dr x1)
  have PYb := Lib.hid (PYm.out.dr x1)
  have Z7 : Hid (w6.heap.size ≤ (w6.drewN x1).heap.size) := Nat.le_refl _
  generalize w6.drewN x1 = w7 at X7 P7 S5b S6b PXb PYb Z7 ⊢
  clear X O4 S4 S5 S6 PXm PYm
  go_wp2_with fail
  refine (SpoilBytes_keep w3.drew.heap.size Aw4 nw4 cw4 nw4 _ w7 P7.out (Nat.le_refl _) (by have := N4.out; have := hn4.out; omega)).mono ?_
  rintro e w8 ⟨rfl, hg8, _⟩
  have F8 : Hid (Fr (fun k => w3.heap.size ≤ k ∧ k < w4.heap.size) w7 w8) := (Fr.of_grown hg8).mono (fun k _ e => bk4.out k e.symm)
  have X := Lib.hid (X7.out.fr F8.out (fun p hp e => by have h1 := XL.out p hp; have := e.1; omega) (fun k hk => Nat.le_trans XZ.out hk.1))
  have S5 := Lib.hid (S5b.out.fr F8.out (fun k hk => ⟨Nat.lt_of_lt_of_le hk.2 (Nat.le_trans Z56.out Z7.out), fun e => by have := e.2; have := hk.1; omega⟩))
  have S6 := Lib.hid (S6b.out.fr F8.out (fun k hk => ⟨Nat.lt_of_lt_of_le hk.2 Z7.out, fun e => by have := e.2; have := hk.1; have := Z45.out; omega⟩))
  have PX := Lib.hid (PXb.out.fr F8.out (fun k hk => ⟨Nat.lt_of_lt_of_le hk (Nat.le_trans ZX.out (Nat.le_trans Z56.out Z7.out)), fun e => by have := e.1; have := ZX3.out; omega⟩))
  have PY := Lib.hid (PYb.out.fr F8.out (fun k hk => ⟨Nat.lt_of_lt_of_le hk (Nat.le_trans ZY.out (Nat.le_trans Z56.out Z7.out)), fun e => by have := e.1; have := ZY3.out; omega⟩))
  have Z8 : Hid (w6.heap.size ≤ w8.heap.size) := Nat.le_trans Z7.out F8.out.size
  have Z58 : Hid (w5.heap.size ≤ w8.heap.size) := Nat.le_trans Z56.out Z8.out
  have ZX8 : Hid (w1.heap.size ≤ w8.heap.size) := Nat.le_trans ZX.out Z58.out
  have ZY8 : Hid (w2.heap.size ≤ w8.heap.size) := Nat.le_trans ZY.out Z58.out
  clear hg8 F8 X7 P7 S5b S6b PXb PYb bk4
  go_wp2_with fail
  have r1 : Hid (w8.rangeAt w.heap.size 0 (bs ky)) := range_block (X.out.get (by simp) : w8.heap[w.heap.size]? = some (.cells (bs ky).toArray 23 (0, 0)))
  have r2 : Hid (w8.rangeAt (w.heap.size + 1) 0 (bs nc)) := range_block (X.out.get (by simp) : w8.heap[w.heap.size + 1]? = some (.cells (bs nc).toArray 25 (0, 0)))
  have l1 := X.out.lt (g := w.heap.size) (o := .cells (bs ky).toArray 23 (0, 0)) (by simp)
  have l2 := X.out.lt (g := w.heap.size + 1) (o := .cells (bs nc).toArray 25 (0, 0)) (by simp)
  refine wp_calm ?_
  refine wp_region_os (fun _ w' => Below (w8).drew.heap.size (w8).drew w') [5, 6] (.move 0 (.move 1 (.run 2 [5, 6] (.move 3 (.take 5 (.take 6 (.move 7 (.move 8 (.move 10 (.run 4 [5, 6] (.run 9 [] (.run 11 [5, 6] (.move 12 (.move 13 (.move 14 (.move 15 (.run 16 [5, 6] (.move 17 (.move 18 (.move 19 (.move 20 (.run 21 [5, 6] (.move 22 (.move 23 (.run 24 [5, 6] (.move 25 (.move 26 .done))))))))))))))))))))))))))) (by kernel_rfl) (by kernel_rfl) (fun _ _ _ _ _ h => nomatch h.1) ?_
  have hS0 : Below (w8).drew.heap.size (w8).drew (w8).drew := Below.refl _ _
  refine os_move rfl rfl rfl (Nat.le_of_ble_eq_true rfl) ?_
  apply Exists.intro
  refine ⟨fun w' K hK => ?_, ?_⟩
  (focus
    go_simp
    exact hK)
  refine os_move rfl rfl rfl (Nat.le_of_ble_eq_true rfl) ?_
  apply Exists.intro
  refine ⟨fun w' K hK => ?_, ?_⟩
  (focus
    go_simp
    exact hK)
  refine os_run rfl rfl (fun K hK => ?_)
  go_wp2_with fail
  refine (Same_at (S5.out.belF (Below.undr hS0) (fun k hk => Nat.lt_of_lt_of_le hk.2 Z58.out)) (S6.out.belF (Below.undr hS0) (fun k hk => Nat.lt_of_lt_of_le hk.2 Z8.out)) (by have := hn4.out; have := N5.out; omega) (by have := hn4.out; have := N6.out; omega) true (by simp)).mono ?_
  rintro e w' ⟨rfl, xa, rfl⟩
  go_wp2_with fail
  refine ⟨fun _ _ h => Below.tr h (Below.drd w8 (1 + xa)), ?_⟩
  replace hS0 := Below.tr hS0 (Below.drd w8 (1 + xa))
  refine os_move rfl rfl rfl (Nat.le_of_ble_eq_true rfl) ?_
  apply Exists.intro
  refine ⟨fun w' K hK => ?_, ?_⟩
  (focus
    go_simp
    exact hK)
  refine os_load_mid 23 (.tmp 4) (w.heap.size) (0) (bs ky) _ hS0 rfl rfl rfl rfl rfl (uK.out) rfl (i1.out) (fun w' h => rangeAt_bel (range_dr (r1.out)) h l1) ⟨_, rfl, ?_⟩
  refine os_load_mid 25 (.tmp 5) (w.heap.size + 1) (0) (bs nc) _ hS0 rfl rfl rfl rfl rfl (uN.out) rfl (i2.out) (fun w' h => rangeAt_bel (range_dr (r2.out)) h l2) ⟨_, rfl, ?_⟩
  refine os_moveg rfl rfl rfl (Nat.le_of_ble_eq_true rfl) ?_
  apply Exists.intro
  refine ⟨fun w' K hK => ?_, ?_⟩
  (focus
    go_simp
    exact hK)
  refine os_moveg rfl rfl rfl (Nat.le_of_ble_eq_true rfl) ?_
  apply Exists.intro
  refine ⟨fun w' K hK => ?_, ?_⟩
  (focus
    go_simp
    exact hK)
  refine os_moveg rfl rfl rfl (Nat.le_of_ble_eq_true rfl) ?_
  apply Exists.intro
  refine ⟨fun w' K hK => ?_, ?_⟩
  (focus
    go_simp
    exact hK)
  refine os_run rfl rfl (fun K hK => ?_)
  go_wp2_with fail
  refine (ANew_any _).mono ?_
  rintro e wq ⟨gq, rfl, hbq⟩
  go_wp2_with fail
  refine ⟨fun _ _ h => Below.tr h (hbq), ?_⟩
  replace hS0 := Below.tr hS0 (hbq)
  refine os_run rfl rfl (fun K hK => ?_)
  go_wp2_with fail
  refine (Seal_any _ HK.out HN.out (H1.out.belF (Below.tr X.out.bel (Below.undr hS0)) (fun _ h => h)) (old_up (Below.tr X.out.bel (Below.undr hS0))) (H2.out.belF (Below.tr X.out.bel (Below.undr hS0)) (fun _ h => h)) (old_up (Below.tr X.out.bel (Below.undr hS0))) (by have := hn4.out; omega) (by have := hn4.out; omega)).mono ?_
  rintro e w9 ⟨Aw9, nw9, cw9, rfl, ho9, hb9⟩
  have S9 := Lib.hid (Sl.of_own ho9)
  have N9 : Hid (nw9 = m + 16) := by have h := ho9.1; rw [bs_length, sealL_len, L2.out] at h; show _ = _; omega
  clear ho9
  go_wp2_with fail
  refine ⟨fun _ hk => absurd hk List.not_mem_nil, ?_⟩
  replace hS0 := Below.tr hS0 (hb9)
  refine os_run rfl rfl (fun K hK => ?_)
  go_wp2_with fail
  refine (Same_at S9.out (S6.out.belF (Below.undr hS0) (fun k hk => Nat.lt_of_lt_of_le hk.2 Z8.out)) (by have := hn4.out; have := N9.out; omega) (by have := hn4.out; have := N6.out; omega) true (by simp)).mono ?_
  rintro e w' ⟨rfl, xb, rfl⟩
  go_wp2_with fail
  refine ⟨fun _ _ h => Below.tr h (Below.drN w9 xb), ?_⟩
  replace hS0 := Below.tr hS0 (Below.drN w9 xb)
  refine os_move rfl rfl rfl (Nat.le_of_ble_eq_true rfl) ?_
  apply Exists.intro
  refine ⟨fun w' K hK => ?_, ?_⟩
  (focus
    go_simp
    exact hK)
  refine os_move rfl rfl rfl (Nat.le_of_ble_eq_true rfl) ?_
  apply Exists.intro
  refine ⟨fun w' K hK => ?_, ?_⟩
  (focus
    go_simp
    exact hK)
  refine os_moveg rfl rfl rfl (Nat.le_of_ble_eq_true rfl) ?_
  apply Exists.intro
  refine ⟨fun w' K hK => ?_, ?_⟩
  (focus
    go_simp
    exact hK)
  refine os_moveg rfl rfl rfl (Nat.le_of_ble_eq_true rfl) ?_
  apply Exists.intro
  refine ⟨fun w' K hK => ?_, ?_⟩
  (focus
    go_simp
    exact hK)
  refine os_run rfl rfl (fun K hK => ?_)
  go_wp2_with fail
  refine (KeptBytes_sl (PX.out.belF (Below.undr hS0) (fun k hk => Nat.lt_of_lt_of_le hk ZX8.out)) (fun k hk => Nat.lt_of_lt_of_le hk (Nat.le_trans ZX8.out (Below.undr hS0).size)) (H1.out.belF (Below.tr X.out.bel (Below.undr hS0)) (fun _ h => h)) (old_up (Below.tr X.out.bel (Below.undr hS0))) (by have := hn4.out; omega)).mono ?_
  rintro e wk ⟨rfl, hbk⟩
  go_wp2_with fail
  refine ⟨fun _ _ h => Below.tr h (hbk), ?_⟩
  replace hS0 := Below.tr hS0 (hbk)
  refine os_move rfl rfl rfl (Nat.le_of_ble_eq_true rfl) ?_
  apply Exists.intro
  refine ⟨fun w' K hK => ?_, ?_⟩
  (focus
    go_simp
    exact hK)
  refine os_move rfl rfl rfl (Nat.le_of_ble_eq_true rfl) ?_
  apply Exists.intro
  refine ⟨fun w' K hK => ?_, ?_⟩
  (focus
    go_simp
    exact hK)
  refine os_moveg rfl rfl rfl (Nat.le_of_ble_eq_true rfl) ?_
  apply Exists.intro
  refine ⟨fun w' K hK => ?_, ?_⟩
  (focus
    go_simp
    exact hK)
  refine os_moveg rfl rfl rfl (Nat.le_of_ble_eq_true rfl) ?_
  apply Exists.intro
  refine ⟨fun w' K hK => ?_, ?_⟩
  (focus
    go_simp
    exact hK)
  refine os_run rfl rfl (fun K hK => ?_)
  go_wp2_with fail
  refine (KeptBytes_sl (PY.out.belF (Below.undr hS0) (fun k hk => Nat.lt_of_lt_of_le hk ZY8.out)) (fun k hk => Nat.lt_of_lt_of_le hk (Nat.le_trans ZY8.out (Below.undr hS0).size)) (H2.out.belF (Below.tr X.out.bel (Below.undr hS0)) (fun _ h => h)) (old_up (Below.tr X.out.bel (Below.undr hS0))) (by have := hn4.out; omega)).mono ?_
  rintro e wk ⟨rfl, hbk⟩
  go_wp2_with fail
  refine ⟨fun _ _ h => Below.tr h (hbk), ?_⟩
  replace hS0 := Below.tr hS0 (hbk)
  refine os_move rfl rfl rfl (Nat.le_of_ble_eq_true rfl) ?_
  apply Exists.intro
  refine ⟨fun w' K hK => ?_, ?_⟩
  (focus
    go_simp
    exact hK)
  refine os_move rfl rfl rfl (Nat.le_of_ble_eq_true rfl) ?_
  apply Exists.intro
  refine ⟨fun w' K hK => ?_, ?_⟩
  (focus
    go_simp
    exact hK)
  refine os_run rfl rfl (fun K hK => ?_)
  go_wp2_with fail
  refine (works_any _).mono ?_
  rintro e wk ⟨rfl, hbk⟩
  go_wp2_with fail
  refine ⟨fun _ _ h => Below.tr h (hbk), ?_⟩
  replace hS0 := Below.tr hS0 (hbk)
  refine os_move rfl rfl rfl (Nat.le_of_ble_eq_true rfl) ?_
  apply Exists.intro
  refine ⟨fun w' K hK => ?_, ?_⟩
  (focus
    go_simp
    exact hK)
  refine os_move rfl rfl rfl (Nat.le_of_ble_eq_true rfl) ?_
  apply Exists.intro
  refine ⟨fun w' K hK => ?_, ?_⟩
  (focus
    go_simp
    exact hK)
  refine os_done ⟨rfl, ?_⟩
  go_wp2_with fail
  go_ret
  exact ⟨rfl, Below.tr X.out.bel (Below.undr hS0)⟩
end Go.Proofs.Ytklclbppdoahjaa
/- AeadOpens. -/
namespace Go.Proofs.Ytklclbppdoahjaa
set_option maxRecDepth 100000
open Go.RowKit
attribute [local go_sem] yld yldUpon_value

set_option maxRecDepth 100000 in
set_option maxHeartbeats 8000000 in
theorem AeadOpens_any (w : World) {ky nc : List UInt8} (hk : ky.length = 32) (hn : nc.length = 12) {A B : Option Addr} {n c m d : Nat} {head b : List UInt8} (h1 : Sl w (Old w) A n c head) (h2 : Sl w (Old w) B m d b) (hb1 : n ≤ 140737488355000) (hb2 : m ≤ 140737488355000) (at' : Int) (bits : UInt8) :
    Calls Try.prog 4 #[.agg (bs ky).toArray, .agg (bs nc).toArray, .slice A n c, .slice B m d, .int .i64 at', .int .u8 (bits.toNat : Int)] w fun e w' => e = .returned (.bool true) ∧ Below w.heap.size w w' := by
  have H1 := Lib.hid h1; have H2 := Lib.hid h2
  have L1 := Lib.hid h1.len; have L2 := Lib.hid h2.len
  clear h1 h2
  have HK := Lib.hid hk; have HN := Lib.hid hn
  have uK := Lib.hid Try.underlying23
  have uN := Lib.hid Try.underlying25
  have i1 : Hid ((Try.prog.info? 23).map (·.size) = some (bs ky).length) := by rw [bs_length, HK.out]; exact Try.sizeKey
  have i2 : Hid ((Try.prog.info? 25).map (·.size) = some (bs nc).length) := by rw [bs_length, HN.out]; exact Try.sizeN
  obtain ⟨w0, hw0⟩ : ∃ w0, w0 = (w.alloc (.cells (bs ky).toArray 23)).alloc (.cells (bs nc).toArray 25) := ⟨_, rfl⟩
  have X0 : Hid (Has w w0 [(w.heap.size + 1, .cells (bs nc).toArray 25 (0, 0)), (w.heap.size, .cells (bs ky).toArray 23 (0, 0))]) := by
    have h1 : Has w (w.alloc (.cells (bs ky).toArray 23)) [(w.heap.size, .cells (bs ky).toArray 23 (0, 0))] := (Has.start (Below.refl _ w)).new (Below.al _ _) (Nat.le_refl _) (heap_alloc_new w _)
    have h2 := heap_alloc_new (w.alloc (.cells (bs ky).toArray 23)) (.cells (bs nc).toArray 25)
    rw [World.size_alloc] at h2
    rw [hw0]
    exact h1.new (Below.al _ _) (by rw [World.size_alloc]; exact Nat.le_refl _) h2
  subst hw0
  clear hk hn
  obtain ⟨q, hq⟩ : ∃ q : Int, (if n < m then (m : Int) else (n : Int)) = q := ⟨_, rfl⟩
  go_enter Try.func4, Try.ntmps4
  by_cases hbig : 4096 < q
  · have HX := Lib.hid X0.out.bel
    clear X0
    go_wp2_with fail
    refine (works_any _).mono ?_
    rintro e w' ⟨rfl, hb⟩
    go_wp2_with fail
    go_ret
    exact ⟨rfl, Below.tr HX.out hb⟩
  have hbig2 : q ≤ 4096 := by omega
  have hn4 : Hid (n ≤ 4096 ∧ m ≤ 4096) := by show _ ∧ _; split at hq <;> omega
  clear hbig hb1 hb2
  have r1 : Hid ((((w.alloc (.cells (bs ky).toArray 23)).alloc (.cells (bs nc).toArray 25)).alloc (.cells #[] 34)).rangeAt w.heap.size 0 (bs ky)) := range_block (heap_bel (X0.out.get (by simp) : _ = some (.cells (bs ky).toArray 23 (0, 0))) (Below.al _ _))
  have r2 : Hid ((((w.alloc (.cells (bs ky).toArray 23)).alloc (.cells (bs nc).toArray 25)).alloc (.cells #[] 34)).rangeAt (w.heap.size + 1) 0 (bs nc)) := range_block (heap_bel (X0.out.get (by simp) : _ = some (.cells (bs nc).toArray 25 (0, 0))) (Below.al _ _))
  go_wp2_with (first
    | ((with_reducible refine lst_load_mid 23 (.tmp 6) rfl (w.heap.size) 0 rfl (bs ky) _ r1.out uK.out rfl i1.out ?_ ?_)
       (focus rfl))
    | ((with_reducible refine lst_load_mid 25 (.tmp 7) rfl (w.heap.size + 1) 0 rfl (bs nc) _ r2.out uN.out rfl i2.out ?_ ?_)
       (focus rfl)))
  clear hq hbig2 r1 r2
  have Xa := Lib.hid (X0.out.bl (Below.al _ (.cells #[] 34)))
  generalize ((w.alloc (.cells (bs ky).toArray 23)).alloc (.cells (bs nc).toArray 25)).alloc (.cells #[] 34) = w0 at Xa ⊢
  clear X0
  have hm4 := hn4.out.1
  have hm4' := hn4.out.2
  refine (rSeal_any _ HK.out HN.out (H1.out.belF Xa.out.bel (fun _ h => h)) (old_up Xa.out.bel) (H2.out.belF Xa.out.bel (fun _ h => h)) (old_up Xa.out.bel) (by have := hn4.out; omega) (by have := hn4.out; omega)).mono ?_
  rintro e w1 ⟨A2, n2, c2, rfl, ho, hb1⟩
  have N2 : Hid (n2 = m + 16) := by have h := ho.1; rw [bs_length, sealL_len, L2.out] at h; show _ = _; omega
  obtain ⟨gt, ct, e2, hgt, hlt⟩ := World.ownsRow.form ho (by have := N2.out; omega)
  injection e2 with e2 _ e3; subst e2; subst e3
  have O1 := Lib.hid ho
  have Hgt := Lib.hid hgt
  have hc2 : n2 ≤ c2 := (Sl.of_own ho).cap
  have X1 := Lib.hid (Xa.out.bl hb1)
  have Z01 : Hid (w.heap.size ≤ w0.heap.size) := Xa.out.bel.size
  have Y1 := Lib.hid hb1
  clear ho hgt hb1
  go_wp2_with fail
  refine (Pick_any at' n2 w1 (by have := N2.out; omega)).mono ?_
  rintro e w' ⟨rfl, rfl⟩
  have hn2b : n2 ≤ 4112 := by have := N2.out; omega
  obtain ⟨v, hv, hvl⟩ : ∃ v : Nat, (if (n2 : Int) < 1 then 0 else at' % (n2 : Int)) = (v : Int) ∧ v < n2 := by
    have h0 := N2.out
    rw [if_neg (by omega)]
    have h1 := Int.emod_nonneg at' (show (n2 : Int) ≠ 0 by omega)
    have h2 := Int.emod_lt_of_pos at' (show (0 : Int) < (n2 : Int) by omega)
    exact ⟨(at' % (n2 : Int)).toNat, by omega, by omega⟩
  rw [hv]
  clear hv
  obtain ⟨S, hS⟩ : ∃ S, S = sealL ky nc head b := ⟨_, rfl⟩
  rw [← hS] at O1
  have HS := Lib.hid hS
  have HSl : Hid (S.length = n2) := by rw [hS]; show _ = _; rw [sealL_len, L2.out, N2.out]
  clear hS
  obtain ⟨x, hx⟩ : ∃ x, x = S[v]'(by rw [HSl.out]; exact hvl) := ⟨_, rfl⟩
  have hcell : w1.cell? ⟨gt, v, none⟩ = some (.int .u8 (x.toNat : Int)) := by
    rw [World.ownsRow.cellAt O1.out v (by rw [Nat.mul_one]; exact hvl), bs_get S v (by rw [HSl.out]; exact hvl), hx]; rfl
  have hz := World.ownsRow.frozenAt O1.out v
  obtain ⟨z, hzz⟩ : ∃ z, z = x ^^^ bits := ⟨_, rfl⟩
  have hxy := xor_byte x bits
  rw [← hzz] at hxy
  have hvI : (v : Int) < (n2 : Int) := by omega
  have hv0 : (0 : Int) ≤ (v : Int) := by omega
  have hvc : v ≤ c2 := by omega
  have HZ := Lib.hid hzz
  obtain ⟨o3, g3⟩ := World.ownsRow.stored O1.out v (.int .u8 (z.toNat : Int))
  have O3 : Hid ((w1.setCell ⟨gt, v, none⟩ (.int .u8 (z.toNat : Int))).ownsRow w0.heap.size 5 1 (.slice (some ⟨gt, 0, none⟩) n2 c2) n2 (bs (S.set v z))) := by
    rw [← bs_set]; exact o3
  have G3 := Lib.hid g3
  clear hx hzz o3 g3 hlt
  go_wp2_with fail
  obtain ⟨W3, hW3⟩ : ∃ W3, W3 = w1.setCell ⟨gt, v, none⟩ (.int .u8 (z.toNat : Int)) := ⟨_, rfl⟩
  have hsz : W3.heap.size = w1.heap.size := by rw [hW3]; simp [World.setCell]
  rw [← hW3] at O3 G3 ⊢
  clear hW3
  have X3 : Hid (Has w W3 [(w.heap.size + 1, .cells (bs nc).toArray 25 (0, 0)), (w.heap.size, .cells (bs ky).toArray 23 (0, 0))]) := X1.out.fr (Fr.of_grown G3.out) (fun p hp e => by have h1 := Xa.out.lt (g := p.1) (o := p.2) hp; injection e with e; have := Hgt.out; omega) (fun k hk => by injection hk with hk; have := Hgt.out; have := Z01.out; omega)
  have hh4 := heap_alloc_new W3 (.cells #[.slice B m d, .slice (some ⟨gt, 0, none⟩) n2 c2, .slice (some ⟨gt, 0, none⟩) v c2] 26)
  have X4 := Lib.hid (X3.out.bl (Below.al W3 (.cells #[.slice B m d, .slice (some ⟨gt, 0, none⟩) n2 c2, .slice (some ⟨gt, 0, none⟩) v c2] 26)))
  have T3 := Lib.hid (Sl.of_own O3.out)
  have T4 : Hid (Sl (W3.alloc (.cells #[.slice B m d, .slice (some ⟨gt, 0, none⟩) n2 c2, .slice (some ⟨gt, 0, none⟩) v c2] 26)) (Old (W3.alloc (.cells #[.slice B m d, .slice (some ⟨gt, 0, none⟩) n2 c2, .slice (some ⟨gt, 0, none⟩) v c2] 26))) (some ⟨gt, 0, none⟩) n2 c2 (S.set v z)) := (T3.out.belF (Below.al W3 _) (fun k hk => hk.2.1)).mono (fun k hk => Nat.lt_of_lt_of_le hk.2.1 (Below.al W3 _).size)
  have V4 : Hid (Sl (W3.alloc (.cells #[.slice B m d, .slice (some ⟨gt, 0, none⟩) n2 c2, .slice (some ⟨gt, 0, none⟩) v c2] 26)) (Old (W3.alloc (.cells #[.slice B m d, .slice (some ⟨gt, 0, none⟩) n2 c2, .slice (some ⟨gt, 0, none⟩) v c2] 26))) (some ⟨gt, 0, none⟩) v c2 ((S.set v z).take v)) := Sl.take_ (l' := (S.set v z).drop v) (by rw [List.take_append_drop]; exact T4.out) (by rw [List.length_take, List.length_set, HSl.out]; omega)
  have U4 : Hid (Sl (W3.alloc (.cells #[.slice B m d, .slice (some ⟨gt, 0, none⟩) n2 c2, .slice (some ⟨gt, 0, none⟩) v c2] 26)) (Old (W3.alloc (.cells #[.slice B m d, .slice (some ⟨gt, 0, none⟩) n2 c2, .slice (some ⟨gt, 0, none⟩) v c2] 26))) B m d b) := (H2.out.belF X4.out.bel (fun _ h => h)).mono (fun k hk => Nat.lt_of_lt_of_le hk X4.out.bel.size)
  generalize W3.alloc (.cells #[.slice B m d, .slice (some ⟨gt, 0, none⟩) n2 c2, .slice (some ⟨gt, 0, none⟩) v c2] 26) = W at X4 T4 V4 U4 hh4 ⊢
  rw [hsz] at hh4
  clear hsz
  generalize w1.heap.size = gr at hh4 ⊢
  have HRW : Hid (∀ i, i < 3 → ∃ Ak nk ck lk, W.cell? ⟨gr, i, none⟩ = some (.slice Ak nk ck) ∧ Sl W (Old W) Ak nk ck lk ∧ nk ≤ 5000) := by
    intro i hi
    match i, hi with
    | 0, _ => exact ⟨B, m, d, b, cell_of_row W gr 0 _ _ _ hh4, U4.out, by omega⟩
    | 1, _ => exact ⟨_, n2, c2, _, cell_of_row W gr 1 _ _ _ hh4, T4.out, by omega⟩
    | 2, _ => exact ⟨_, v, c2, _, cell_of_row W gr 2 _ _ _ hh4, V4.out, by omega⟩
  clear X3 X1 Xa T3 T4 V4 U4 hh4 O1 O3 G3 HS HSl HZ hxy hcell hz hvI hv0 hvc hvl hc2 hn2b
  go_loopw [16] (fun iv wr => ∃ k : Nat, k ≤ 3 ∧ iv = .int .i64 (k : Nat) ∧ Hid (Below W.heap.size W wr)) (fun iv _ => 3 - (intOf iv).toNat)
  case atStart => exact ⟨0, Nat.zero_le _, rfl, Below.refl _ _⟩
  case round =>
    obtain ⟨k, hk, rfl, BB⟩ := hrel
    have hk0 : (0 : Int) ≤ (k : Int) := by omega
    have X := Lib.hid (X4.out.bl BB.out)
    by_cases hlt : k < 3
    · have hkI : (k : Int) < 3 := by omega
      obtain ⟨Ak, nk, ck, lk, hcW, slW, hnk⟩ := HRW.out k hlt
      have HR : Hid (W.cell? ⟨gr, k, none⟩ = some (.slice Ak nk ck) ∧ Sl W (Old W) Ak nk ck lk ∧ nk ≤ 5000) := ⟨hcW, slW, hnk⟩
      have Lk := Lib.hid slW.len
      clear hcW slW
      have S1 := Lib.hid (H1.out.belF X.out.bel (fun _ h => h))
      go_wp2_with fail
      refine (LentBytes_sl S1.out (old_up X.out.bel) (by omega)).mono ?_
      rintro e wa ⟨gx, cx, rfl, hox, hbx⟩
      have OX := Lib.hid (Sl.of_own hox)
      replace X := Lib.hid (X.out.bl hbx)
      replace BB := Lib.hid (Below.tr BB.out hbx)
      clear hox hbx S1
      have hcr : wa.cell? ⟨gr, k, none⟩ = some (.slice Ak nk ck) := cell_bel HR.out.1 BB.out
      go_wp2_with fail
      have S2 := Lib.hid (HR.out.2.1.belF BB.out (fun _ h => h))
      refine (LentBytes_sl S2.out (fun k hk => Nat.lt_of_lt_of_le hk BB.out.size) (by have := HR.out.2.2; omega)).mono ?_
      rintro e wb ⟨gy, cy, rfl, hoy, hby⟩
      have OY := Lib.hid (Sl.of_own hoy)
      replace X := Lib.hid (X.out.bl hby)
      replace BB := Lib.hid (Below.tr BB.out hby)
      have OX2 := Lib.hid (OX.out.belF hby (fun k hk => hk.2.1))
      have ZX : Hid (wa.heap.size ≤ wb.heap.size) := hby.size
      have ZY : Hid (wb.heap.size ≤ wb.heap.size) := Nat.le_refl _
      have PXm : Hid (Sl wb (fun k => k < wa.heap.size) (some ⟨gx, 0, none⟩) (n + 5) cx (head ++ marks)) := OX2.out.mono (fun k hk => hk.2.1)
      have PYm : Hid (Sl wb (fun k => k < wb.heap.size) (some ⟨gy, 0, none⟩) (nk + 5) cy (lk ++ marks)) := OY.out.mono (fun k hk => hk.2.1)
      have PX : Hid (Sl wb (fun k => k < wa.heap.size) (some ⟨gx, 0, none⟩) n cx head) := Sl.take_ PXm.out L1.out
      have PY : Hid (Sl wb (fun k => k < wb.heap.size) (some ⟨gy, 0, none⟩) nk cy lk) := Sl.take_ PYm.out Lk.out
      have hcx : n ≤ cx := PX.out.cap
      have hcy : nk ≤ cy := PY.out.cap
      have ZW0 : Hid (W.heap.size ≤ wb.heap.size) := BB.out.size
      have ZXb : Hid (wa.heap.size ≤ wb.heap.size) := ZX.out
      obtain ⟨Q, hQ⟩ : ∃ Q, Q = (openL ky nc head lk).getD [] := ⟨_, rfl⟩
      have HQl : Hid (Q.length ≤ 5000) := by
        have := Lk.out
        show _ ≤ _
        cases ho : openL ky nc head lk with
        | none => rw [hQ, ho]; simp
        | some p => have h := openL_len ho; rw [hQ, ho]; simp; omega
      obtain ⟨bb, hbb⟩ : ∃ bb, bb = (openL ky nc head lk).isSome := ⟨_, rfl⟩
      have HQ := Lib.hid hQ; have HBB := Lib.hid hbb
      clear hQ hbb hcr OX OX2 OY S2 hoy hby
      go_wp2_with fail
      have r1 : Hid (wb.rangeAt w.heap.size 0 (bs ky)) := range_block (X.out.get (by simp) : wb.heap[w.heap.size]? = some (.cells (bs ky).toArray 23 (0, 0)))
      have r2 : Hid (wb.rangeAt (w.heap.size + 1) 0 (bs nc)) := range_block (X.out.get (by simp) : wb.heap[w.heap.size + 1]? = some (.cells (bs nc).toArray 25 (0, 0)))
      have l1 := X.out.lt (g := w.heap.size) (o := .cells (bs ky).toArray 23 (0, 0)) (by simp)
      have l2 := X.out.lt (g := w.heap.size + 1) (o := .cells (bs nc).toArray 25 (0, 0)) (by simp)
      have hcr : wb.cell? ⟨gr, k, none⟩ = some (.slice Ak nk ck) := cell_bel HR.out.1 BB.out
      have lgr : gr < wb.heap.size := block_lt_of hcr
      refine wp_calm ?_
      refine wp_region_os (fun _ w' => Below (wb).drew.heap.size (wb).drew w') [1, 2, 11] (.take 1 (.take 2 (.move 3 (.move 4 (.move 5 (.move 6 (.move 7 (.move 8 (.move 9 (.move 10 (.take 11 (.move 12 (.move 13 (.run 0 [1, 2, 11] (.run 14 [11] (.move 15 (.move 16 (.move 17 (.move 18 (.move 19 .done)))))))))))))))))))) (by kernel_rfl) (by kernel_rfl) (fun _ _ _ _ _ h => nomatch h.1) ?_
      have hS0 : Below (wb).drew.heap.size (wb).drew (wb).drew := Below.refl _ _
      refine os_load_mid 23 (.tmp 6) (w.heap.size) (0) (bs ky) _ hS0 rfl rfl rfl rfl rfl (uK.out) rfl (i1.out) (fun w' h => rangeAt_bel (range_dr (r1.out)) h l1) ⟨_, rfl, ?_⟩
      refine os_load_mid 25 (.tmp 7) (w.heap.size + 1) (0) (bs nc) _ hS0 rfl rfl rfl rfl rfl (uN.out) rfl (i2.out) (fun w' h => rangeAt_bel (range_dr (r2.out)) h l2) ⟨_, rfl, ?_⟩
      refine os_move rfl rfl rfl (Nat.le_of_ble_eq_true rfl) ?_
      apply Exists.intro
      refine ⟨fun w' K hK => ?_, ?_⟩
      (focus
        go_simp
        exact hK)
      refine os_move rfl rfl rfl (Nat.le_of_ble_eq_true rfl) ?_
      apply Exists.intro
      refine ⟨fun w' K hK => ?_, ?_⟩
      (focus
        go_simp
        exact hK)
      refine os_move rfl rfl rfl (Nat.le_of_ble_eq_true rfl) ?_
      apply Exists.intro
      refine ⟨fun w' K hK => ?_, ?_⟩
      (focus
        go_simp
        exact hK)
      refine os_move rfl rfl rfl (Nat.le_of_ble_eq_true rfl) ?_
      apply Exists.intro
      refine ⟨fun w' K hK => ?_, ?_⟩
      (focus
        go_simp
        exact hK)
      refine os_move rfl rfl rfl (Nat.le_of_ble_eq_true rfl) ?_
      apply Exists.intro
      refine ⟨fun w' K hK => ?_, ?_⟩
      (focus
        go_simp
        exact hK)
      refine os_move rfl rfl rfl (Nat.le_of_ble_eq_true rfl) ?_
      apply Exists.intro
      refine ⟨fun w' K hK => ?_, ?_⟩
      (focus
        go_simp
        exact hK)
      refine os_move rfl rfl rfl (Nat.le_of_ble_eq_true rfl) ?_
      apply Exists.intro
      refine ⟨fun w' K hK => ?_, ?_⟩
      (focus
        go_simp
        exact hK)
      refine os_move rfl rfl rfl (Nat.le_of_ble_eq_true rfl) ?_
      apply Exists.intro
      refine ⟨fun w' K hK => ?_, ?_⟩
      (focus
        go_simp
        exact hK)
      refine os_yld hS0 rfl rfl rfl (Nat.le_of_ble_eq_true rfl) ?_
      apply Exists.intro
      refine ⟨fun w' hS' K hK => ?_, ?_⟩
      (focus
        obtain ⟨hcc, hff⟩ := bcellB (Below.undr hS')
        clear hS'
        go_simp
        exact hK)
      refine os_move rfl rfl rfl (Nat.le_of_ble_eq_true rfl) ?_
      apply Exists.intro
      refine ⟨fun w' K hK => ?_, ?_⟩
      (focus
        go_simp
        exact hK)
      refine os_move rfl rfl rfl (Nat.le_of_ble_eq_true rfl) ?_
      apply Exists.intro
      refine ⟨fun w' K hK => ?_, ?_⟩
      (focus
        go_simp
        exact hK)
      refine os_run rfl rfl (fun K hK => ?_)
      go_wp2_with fail
      refine (ANew_any _).mono ?_
      rintro e wq ⟨gq, rfl, hbq⟩
      have hqz : wb.heap.size ≤ wq.heap.size := hbq.size
      go_wp2_with fail
      refine ⟨fun _ _ h => Below.tr h (hbq), ?_⟩
      replace hS0 := Below.tr hS0 (hbq)
      refine os_run rfl rfl (fun K hK => ?_)
      go_wp2_with fail
      refine (Open_any _ HK.out HN.out (PX.out.belF (Below.undr hS0) (fun k hk => Nat.lt_of_lt_of_le hk ZX.out)) (fun k hk => Nat.lt_of_lt_of_le hk (Nat.le_trans ZX.out (Below.undr hS0).size)) (PY.out.belF (Below.undr hS0) (fun k hk => Nat.lt_of_lt_of_le hk ZY.out)) (fun k hk => Nat.lt_of_lt_of_le hk (Nat.le_trans ZY.out (Below.undr hS0).size)) (by have := hn4.out; omega) (by have := HR.out.2.2; omega)).mono ?_
      rintro e wc ⟨⟨Awc, nwc, cwc, rfl, ho⟩, hbx⟩
      replace ho := own_mono ho hqz
      go_wp2_with fail
      refine ⟨fun _ _ h => Below.tr h (hbx), ?_⟩
      replace hS0 := Below.tr hS0 (hbx)
      refine os_move rfl rfl rfl (Nat.le_of_ble_eq_true rfl) ?_
      apply Exists.intro
      refine ⟨fun w' K hK => ?_, ?_⟩
      (focus
        go_simp
        exact hK)
      refine os_move rfl rfl rfl (Nat.le_of_ble_eq_true rfl) ?_
      apply Exists.intro
      refine ⟨fun w' K hK => ?_, ?_⟩
      (focus
        go_simp
        exact hK)
      refine os_move rfl rfl rfl (Nat.le_of_ble_eq_true rfl) ?_
      apply Exists.intro
      refine ⟨fun w' K hK => ?_, ?_⟩
      (focus
        go_simp
        exact hK)
      refine os_move rfl rfl rfl (Nat.le_of_ble_eq_true rfl) ?_
      apply Exists.intro
      refine ⟨fun w' K hK => ?_, ?_⟩
      (focus
        go_simp
        exact hK)
      refine os_move rfl rfl rfl (Nat.le_of_ble_eq_true rfl) ?_
      apply Exists.intro
      refine ⟨fun w' K hK => ?_, ?_⟩
      (focus
        go_simp
        exact hK)
      refine os_done ⟨rfl, ?_⟩
      rw [← HQ.out] at ho
      rw [← HBB.out]
      have Nc : Hid (nwc ≤ 5000) := by have h := ho.1; rw [bs_length] at h; have := HQl.out; show _ ≤ _; omega
      have O1 := Lib.hid ho
      have BK : Hid (∀ j, (Value.slice Awc nwc cwc).ownBlock = some j → wb.heap.size ≤ j ∧ j < wc.heap.size) := Lib.hid (fun j hj => ho.lt j hj)
      have S1 : Hid (Sl wc (fun k => wb.heap.size ≤ k ∧ k < wc.heap.size) Awc nwc cwc Q) := (Sl.of_own ho).mono (fun k hk => ⟨hk.1, hk.2.1⟩)
      have Zbc : Hid (wb.heap.size ≤ wc.heap.size) := (Below.undr hS0).size
      replace X := Lib.hid (X.out.bl (Below.undr hS0))
      replace BB := Lib.hid (Below.tr BB.out (Below.undr hS0))
      replace PX := Lib.hid (PX.out.belF (Below.undr hS0) (fun k hk => Nat.lt_of_lt_of_le hk ZX.out))
      replace PY := Lib.hid (PY.out.belF (Below.undr hS0) (fun k hk => Nat.lt_of_lt_of_le hk ZY.out))
      replace PXm := Lib.hid (PXm.out.belF (Below.undr hS0) (fun k hk => Nat.lt_of_lt_of_le hk ZX.out))
      replace PYm := Lib.hid (PYm.out.belF (Below.undr hS0) (fun k hk => Nat.lt_of_lt_of_le hk ZY.out))
      replace ZX : Hid (wa.heap.size ≤ wc.heap.size) := Nat.le_trans ZX.out (Below.undr hS0).size
      replace ZY : Hid (wb.heap.size ≤ wc.heap.size) := Nat.le_trans ZY.out (Below.undr hS0).size
      clear hS0 ho r1 r2 l1 l2 hbx hcr lgr
      go_wp2_with fail
      have r1 : Hid (wc.rangeAt w.heap.size 0 (bs ky)) := range_block (X.out.get (by simp) : wc.heap[w.heap.size]? = some (.cells (bs ky).toArray 23 (0, 0)))
      have r2 : Hid (wc.rangeAt (w.heap.size + 1) 0 (bs nc)) := range_block (X.out.get (by simp) : wc.heap[w.heap.size + 1]? = some (.cells (bs nc).toArray 25 (0, 0)))
      have l1 := X.out.lt (g := w.heap.size) (o := .cells (bs ky).toArray 23 (0, 0)) (by simp)
      have l2 := X.out.lt (g := w.heap.size + 1) (o := .cells (bs nc).toArray 25 (0, 0)) (by simp)
      have hcr : wc.cell? ⟨gr, k, none⟩ = some (.slice Ak nk ck) := cell_bel HR.out.1 BB.out
      have lgr : gr < wc.heap.size := block_lt_of hcr
      refine wp_calm ?_
      refine wp_region_os (fun _ w' => Below (wc).drew.heap.size (wc).drew w') [1, 2, 11] (.take 1 (.take 2 (.move 3 (.move 4 (.move 5 (.move 6 (.move 7 (.move 8 (.move 9 (.move 10 (.take 11 (.move 12 (.move 13 (.run 0 [1, 2, 11] (.run 14 [11] (.move 15 (.move 16 (.move 17 (.move 18 (.move 19 .done)))))))))))))))))))) (by kernel_rfl) (by kernel_rfl) (fun _ _ _ _ _ h => nomatch h.1) ?_
      have hS0 : Below (wc).drew.heap.size (wc).drew (wc).drew := Below.refl _ _
      refine os_load_mid 23 (.tmp 6) (w.heap.size) (0) (bs ky) _ hS0 rfl rfl rfl rfl rfl (uK.out) rfl (i1.out) (fun w' h => rangeAt_bel (range_dr (r1.out)) h l1) ⟨_, rfl, ?_⟩
      refine os_load_mid 25 (.tmp 7) (w.heap.size + 1) (0) (bs nc) _ hS0 rfl rfl rfl rfl rfl (uN.out) rfl (i2.out) (fun w' h => rangeAt_bel (range_dr (r2.out)) h l2) ⟨_, rfl, ?_⟩
      refine os_move rfl rfl rfl (Nat.le_of_ble_eq_true rfl) ?_
      apply Exists.intro
      refine ⟨fun w' K hK => ?_, ?_⟩
      (focus
        go_simp
        exact hK)
      refine os_move rfl rfl rfl (Nat.le_of_ble_eq_true rfl) ?_
      apply Exists.intro
      refine ⟨fun w' K hK => ?_, ?_⟩
      (focus
        go_simp
        exact hK)
      refine os_move rfl rfl rfl (Nat.le_of_ble_eq_true rfl) ?_
      apply Exists.intro
      refine ⟨fun w' K hK => ?_, ?_⟩
      (focus
        go_simp
        exact hK)
      refine os_move rfl rfl rfl (Nat.le_of_ble_eq_true rfl) ?_
      apply Exists.intro
      refine ⟨fun w' K hK => ?_, ?_⟩
      (focus
        go_simp
        exact hK)
      refine os_move rfl rfl rfl (Nat.le_of_ble_eq_true rfl) ?_
      apply Exists.intro
      refine ⟨fun w' K hK => ?_, ?_⟩
      (focus
        go_simp
        exact hK)
      refine os_move rfl rfl rfl (Nat.le_of_ble_eq_true rfl) ?_
      apply Exists.intro
      refine ⟨fun w' K hK => ?_, ?_⟩
      (focus
        go_simp
        exact hK)
      refine os_move rfl rfl rfl (Nat.le_of_ble_eq_true rfl) ?_
      apply Exists.intro
      refine ⟨fun w' K hK => ?_, ?_⟩
      (focus
        go_simp
        exact hK)
      refine os_move rfl rfl rfl (Nat.le_of_ble_eq_true rfl) ?_
      apply Exists.intro
      refine ⟨fun w' K hK => ?_, ?_⟩
      (focus
        go_simp
        exact hK)
      refine os_yld hS0 rfl rfl rfl (Nat.le_of_ble_eq_true rfl) ?_
      apply Exists.intro
      refine ⟨fun w' hS' K hK => ?_, ?_⟩
      (focus
        obtain ⟨hcc, hff⟩ := bcellB (Below.undr hS')
        clear hS'
        go_simp
        exact hK)
      refine os_move rfl rfl rfl (Nat.le_of_ble_eq_true rfl) ?_
      apply Exists.intro
      refine ⟨fun w' K hK => ?_, ?_⟩
      (focus
        go_simp
        exact hK)
      refine os_move rfl rfl rfl (Nat.le_of_ble_eq_true rfl) ?_
      apply Exists.intro
      refine ⟨fun w' K hK => ?_, ?_⟩
      (focus
        go_simp
        exact hK)
      refine os_run rfl rfl (fun K hK => ?_)
      go_wp2_with fail
      refine (ANew_any _).mono ?_
      rintro e wq ⟨gq, rfl, hbq⟩
      have hqz : wc.heap.size ≤ wq.heap.size := hbq.size
      go_wp2_with fail
      refine ⟨fun _ _ h => Below.tr h (hbq), ?_⟩
      replace hS0 := Below.tr hS0 (hbq)
      refine os_run rfl rfl (fun K hK => ?_)
      go_wp2_with fail
      refine (Open_any _ HK.out HN.out (PX.out.belF (Below.undr hS0) (fun k hk => Nat.lt_of_lt_of_le hk ZX.out)) (fun k hk => Nat.lt_of_lt_of_le hk (Nat.le_trans ZX.out (Below.undr hS0).size)) (PY.out.belF (Below.undr hS0) (fun k hk => Nat.lt_of_lt_of_le hk ZY.out)) (fun k hk => Nat.lt_of_lt_of_le hk (Nat.le_trans ZY.out (Below.undr hS0).size)) (by have := hn4.out; omega) (by have := HR.out.2.2; omega)).mono ?_
      rintro e wd ⟨⟨Awd, nwd, cwd, rfl, ho⟩, hbx⟩
      replace ho := own_mono ho hqz
      go_wp2_with fail
      refine ⟨fun _ _ h => Below.tr h (hbx), ?_⟩
      replace hS0 := Below.tr hS0 (hbx)
      refine os_move rfl rfl rfl (Nat.le_of_ble_eq_true rfl) ?_
      apply Exists.intro
      refine ⟨fun w' K hK => ?_, ?_⟩
      (focus
        go_simp
        exact hK)
      refine os_move rfl rfl rfl (Nat.le_of_ble_eq_true rfl) ?_
      apply Exists.intro
      refine ⟨fun w' K hK => ?_, ?_⟩
      (focus
        go_simp
        exact hK)
      refine os_move rfl rfl rfl (Nat.le_of_ble_eq_true rfl) ?_
      apply Exists.intro
      refine ⟨fun w' K hK => ?_, ?_⟩
      (focus
        go_simp
        exact hK)
      refine os_move rfl rfl rfl (Nat.le_of_ble_eq_true rfl) ?_
      apply Exists.intro
      refine ⟨fun w' K hK => ?_, ?_⟩
      (focus
        go_simp
        exact hK)
      refine os_move rfl rfl rfl (Nat.le_of_ble_eq_true rfl) ?_
      apply Exists.intro
      refine ⟨fun w' K hK => ?_, ?_⟩
      (focus
        go_simp
        exact hK)
      refine os_done ⟨rfl, ?_⟩
      rw [← HQ.out] at ho
      rw [← HBB.out]
      have Nd : Hid (nwd ≤ 5000) := by have h := ho.1; rw [bs_length] at h; have := HQl.out; show _ ≤ _; omega
      have S2 : Hid (Sl wd (fun k => wc.heap.size ≤ k ∧ k < wd.heap.size) Awd nwd cwd Q) := (Sl.of_own ho).mono (fun k hk => ⟨hk.1, hk.2.1⟩)
      have Zcd : Hid (wc.heap.size ≤ wd.heap.size) := (Below.undr hS0).size
      replace O1 := Lib.hid (own_fr O1.out (Fr.of_below (M := NoB) (Below.undr hS0)) (fun _ _ e => e))
      replace S1 := Lib.hid (S1.out.belF (Below.undr hS0) (fun k hk => hk.2))
      replace X := Lib.hid (X.out.bl (Below.undr hS0))
      replace BB := Lib.hid (Below.tr BB.out (Below.undr hS0))
      replace PX := Lib.hid (PX.out.belF (Below.undr hS0) (fun k hk => Nat.lt_of_lt_of_le hk ZX.out))
      replace PY := Lib.hid (PY.out.belF (Below.undr hS0) (fun k hk => Nat.lt_of_lt_of_le hk ZY.out))
      replace PXm := Lib.hid (PXm.out.belF (Below.undr hS0) (fun k hk => Nat.lt_of_lt_of_le hk ZX.out))
      replace PYm := Lib.hid (PYm.out.belF (Below.undr hS0) (fun k hk => Nat.lt_of_lt_of_le hk ZY.out))
      replace ZX : Hid (wa.heap.size ≤ wd.heap.size) := Nat.le_trans ZX.out (Below.undr hS0).size
      replace ZY : Hid (wb.heap.size ≤ wd.heap.size) := Nat.le_trans ZY.out (Below.undr hS0).size
      clear hS0 ho r1 r2 l1 l2 hbx hcr lgr
      go_wp2_with fail
      have r1 : Hid (wd.rangeAt w.heap.size 0 (bs ky)) := range_block (X.out.get (by simp) : wd.heap[w.heap.size]? = some (.cells (bs ky).toArray 23 (0, 0)))
      have r2 : Hid (wd.rangeAt (w.heap.size + 1) 0 (bs nc)) := range_block (X.out.get (by simp) : wd.heap[w.heap.size + 1]? = some (.cells (bs nc).toArray 25 (0, 0)))
      have l1 := X.out.lt (g := w.heap.size) (o := .cells (bs ky).toArray 23 (0, 0)) (by simp)
      have l2 := X.out.lt (g := w.heap.size + 1) (o := .cells (bs nc).toArray 25 (0, 0)) (by simp)
      have hcr : wd.cell? ⟨gr, k, none⟩ = some (.slice Ak nk ck) := cell_bel HR.out.1 BB.out
      have lgr : gr < wd.heap.size := block_lt_of hcr
      have S3 := Lib.hid (HR.out.2.1.belF BB.out (fun _ h => h))
      refine wp_calm ?_
      refine wp_region_os (fun _ w' => Below (wd).drew.heap.size (wd).drew w') [1, 2, 7] (.move 0 (.take 1 (.take 2 (.move 3 (.move 4 (.move 5 (.move 6 (.take 7 (.run 8 [] (.move 9 (.move 10 (.move 11 (.move 12 (.move 13 .done)))))))))))))) (by kernel_rfl) (by kernel_rfl) (fun _ _ _ _ _ h => nomatch h.1) ?_
      have hS0 : Below (wd).drew.heap.size (wd).drew (wd).drew := Below.refl _ _
      refine os_move rfl rfl rfl (Nat.le_of_ble_eq_true rfl) ?_
      apply Exists.intro
      refine ⟨fun w' K hK => ?_, ?_⟩
      (focus
        go_simp
        exact hK)
      refine os_load_mid 23 (.tmp 6) (w.heap.size) (0) (bs ky) _ hS0 rfl rfl rfl rfl rfl (uK.out) rfl (i1.out) (fun w' h => rangeAt_bel (range_dr (r1.out)) h l1) ⟨_, rfl, ?_⟩
      refine os_load_mid 25 (.tmp 7) (w.heap.size + 1) (0) (bs nc) _ hS0 rfl rfl rfl rfl rfl (uN.out) rfl (i2.out) (fun w' h => rangeAt_bel (range_dr (r2.out)) h l2) ⟨_, rfl, ?_⟩
      refine os_move rfl rfl rfl (Nat.le_of_ble_eq_true rfl) ?_
      apply Exists.intro
      refine ⟨fun w' K hK => ?_, ?_⟩
      (focus
        go_simp
        exact hK)
      refine os_move rfl rfl rfl (Nat.le_of_ble_eq_true rfl) ?_
      apply Exists.intro
      refine ⟨fun w' K hK => ?_, ?_⟩
      (focus
        go_simp
        exact hK)
      refine os_move rfl rfl rfl (Nat.le_of_ble_eq_true rfl) ?_
      apply Exists.intro
      refine ⟨fun w' K hK => ?_, ?_⟩
      (focus
        go_simp
        exact hK)
      refine os_move rfl rfl rfl (Nat.le_of_ble_eq_true rfl) ?_
      apply Exists.intro
      refine ⟨fun w' K hK => ?_, ?_⟩
      (focus
        go_simp
        exact hK)
      refine os_yld hS0 rfl rfl rfl (Nat.le_of_ble_eq_true rfl) ?_
      apply Exists.intro
      refine ⟨fun w' hS' K hK => ?_, ?_⟩
      (focus
        obtain ⟨hcc, hff⟩ := bcellB (Below.undr hS')
        clear hS'
        go_simp
        exact hK)
      refine os_run rfl rfl (fun K hK => ?_)
      go_wp2_with fail
      refine (rOpen_any _ HK.out HN.out (H1.out.belF (Below.tr X.out.bel (Below.undr hS0)) (fun _ h => h)) (old_up (Below.tr X.out.bel (Below.undr hS0))) (S3.out.belF (Below.undr hS0) (fun k hk => Nat.lt_of_lt_of_le hk BB.out.size)) (fun k hk => Nat.lt_of_lt_of_le hk (Nat.le_trans BB.out.size (Below.undr hS0).size)) (by have := hn4.out; omega) (by have := HR.out.2.2; omega)).mono ?_
      rintro e we ⟨⟨Awe, nwe, cwe, rfl, ho⟩, hbx⟩
      go_wp2_with fail
      refine ⟨fun _ hk => absurd hk List.not_mem_nil, ?_⟩
      replace hS0 := Below.tr hS0 (hbx)
      refine os_move rfl rfl rfl (Nat.le_of_ble_eq_true rfl) ?_
      apply Exists.intro
      refine ⟨fun w' K hK => ?_, ?_⟩
      (focus
        go_simp
        exact hK)
      refine os_move rfl rfl rfl (Nat.le_of_ble_eq_true rfl) ?_
      apply Exists.intro
      refine ⟨fun w' K hK => ?_, ?_⟩
      (focus
        go_simp
        exact hK)
      refine os_move rfl rfl rfl (Nat.le_of_ble_eq_true rfl) ?_
      apply Exists.intro
      refine ⟨fun w' K hK => ?_, ?_⟩
      (focus
        go_simp
        exact hK)
      refine os_move rfl rfl rfl (Nat.le_of_ble_eq_true rfl) ?_
      apply Exists.intro
      refine ⟨fun w' K hK => ?_, ?_⟩
      (focus
        go_simp
        exact hK)
      refine os_move rfl rfl rfl (Nat.le_of_ble_eq_true rfl) ?_
      apply Exists.intro
      refine ⟨fun w' K hK => ?_, ?_⟩
      (focus
        go_simp
        exact hK)
      refine os_done ⟨rfl, ?_⟩
      rw [← HQ.out] at ho
      rw [← HBB.out]
      have Ne : Hid (nwe ≤ 5000) := by have h := ho.1; rw [bs_length] at h; have := HQl.out; show _ ≤ _; omega
      have S4 : Hid (Sl we (fun k => wd.heap.size ≤ k ∧ k < we.heap.size) Awe nwe cwe Q) := (Sl.of_own ho).mono (fun k hk => ⟨hk.1, hk.2.1⟩)
      have Zde : Hid (wd.heap.size ≤ we.heap.size) := (Below.undr hS0).size
      replace O1 := Lib.hid (own_fr O1.out (Fr.of_below (M := NoB) (Below.undr hS0)) (fun _ _ e => e))
      replace S1 := Lib.hid (S1.out.belF (Below.undr hS0) (fun k hk => Nat.lt_of_lt_of_le hk.2 Zcd.out))
      replace S2 := Lib.hid (S2.out.belF (Below.undr hS0) (fun k hk => hk.2))
      replace X := Lib.hid (X.out.bl (Below.undr hS0))
      replace BB := Lib.hid (Below.tr BB.out (Below.undr hS0))
      replace PX := Lib.hid (PX.out.belF (Below.undr hS0) (fun k hk => Nat.lt_of_lt_of_le hk ZX.out))
      replace PY := Lib.hid (PY.out.belF (Below.undr hS0) (fun k hk => Nat.lt_of_lt_of_le hk ZY.out))
      replace PXm := Lib.hid (PXm.out.belF (Below.undr hS0) (fun k hk => Nat.lt_of_lt_of_le hk ZX.out))
      replace PYm := Lib.hid (PYm.out.belF (Below.undr hS0) (fun k hk => Nat.lt_of_lt_of_le hk ZY.out))
      replace ZX : Hid (wa.heap.size ≤ we.heap.size) := Nat.le_trans ZX.out (Below.undr hS0).size
      replace ZY : Hid (wb.heap.size ≤ we.heap.size) := Nat.le_trans ZY.out (Below.undr hS0).size
      clear hS0 ho r1 r2 l1 l2 hbx hcr lgr S3 PX PY
      have hbne : (bb != bb) = false := by cases bb <;> rfl
      go_wp2_with fail
      refine (Same_at S1.out S4.out (by have := Nc.out; omega) (by have := Ne.out; omega) true (by simp)).mono ?_
      rintro e w' ⟨rfl, x1, rfl⟩
      have O1b : Hid ((we.drewN x1).ownsRow wb.heap.size 5 1 (.slice Awc nwc cwc) nwc (bs Q)) := O1.out
      have S2b := Lib.hid (S2.out.dr x1)
      have S4b := Lib.hid (S4.out.dr x1)
      have Xb := Lib.hid (X.out.bl (Below.drN we x1))
      have BBb := Lib.hid (Below.tr BB.out (Below.drN we x1))
      have PXb := Lib.hid (PXm.out.dr x1)
      have PYb := Lib.hid (PYm.out.dr x1)
      have Zef : Hid (we.heap.size ≤ (we.drewN x1).heap.size) := Nat.le_refl _
      generalize we.drewN x1 = wf at O1b S2b S4b Xb BBb PXb PYb Zef ⊢
      clear O1 S1 S2 S4 X BB PXm PYm hbne
      go_wp2_with fail
      refine (SpoilBytes_keep wb.heap.size Awc nwc cwc nwc _ wf O1b.out (Nat.le_refl _) (by have := Nc.out; omega)).mono ?_
      rintro e wg ⟨rfl, hg8, _⟩
      have F8 : Hid (Fr (fun k => wb.heap.size ≤ k ∧ k < wc.heap.size) wf wg) := (Fr.of_grown hg8).mono (fun k _ e => BK.out k e.symm)
      have ZWb : Hid (W.heap.size ≤ wb.heap.size) := ZW0.out
      have BB : Hid (Below W.heap.size W wg) := ((Fr.of_below BBb.out).trans F8.out (fun _ _ e => e)).to_below (fun i hi e => by have := e.1; have := ZWb.out; omega)
      have X := Lib.hid (X4.out.bl BB.out)
      have S2 := Lib.hid (S2b.out.fr F8.out (fun k hk => ⟨Nat.lt_of_lt_of_le hk.2 (Nat.le_trans Zde.out Zef.out), fun e => by have := e.2; have := hk.1; omega⟩))
      have S4 := Lib.hid (S4b.out.fr F8.out (fun k hk => ⟨Nat.lt_of_lt_of_le hk.2 Zef.out, fun e => by have := e.2; have := hk.1; have := Zcd.out; omega⟩))
      have PX := Lib.hid (PXb.out.fr F8.out (fun k hk => ⟨Nat.lt_of_lt_of_le hk (Nat.le_trans ZX.out Zef.out), fun e => by have := e.1; have := ZXb.out; omega⟩))
      have PY := Lib.hid (PYb.out.fr F8.out (fun k hk => ⟨Nat.lt_of_lt_of_le hk (Nat.le_trans ZY.out Zef.out), fun e => by have := e.1; omega⟩))
      have Zg : Hid (wf.heap.size ≤ wg.heap.size) := F8.out.size
      have ZdG : Hid (wd.heap.size ≤ wg.heap.size) := Nat.le_trans Zde.out (Nat.le_trans Zef.out Zg.out)
      have ZeG : Hid (we.heap.size ≤ wg.heap.size) := Nat.le_trans Zef.out Zg.out
      have ZXG : Hid (wa.heap.size ≤ wg.heap.size) := Nat.le_trans ZX.out ZeG.out
      have ZYG : Hid (wb.heap.size ≤ wg.heap.size) := Nat.le_trans ZY.out ZeG.out
      have S3 := Lib.hid (HR.out.2.1.belF BB.out (fun _ h => h))
      clear hg8 F8 O1b S2b S4b Xb BBb PXb PYb BK
      go_wp2_with fail
      refine (Same_at S2.out S4.out (by have := Nd.out; omega) (by have := Ne.out; omega) true (by simp)).mono ?_
      rintro e w' ⟨rfl, x2, rfl⟩
      go_wp2_with fail
      refine (KeptBytes_sl (PX.out.dr x2) (fun k hk => Nat.lt_of_lt_of_le hk ZXG.out) (H1.out.belF (Below.tr X.out.bel (Below.drN wg x2)) (fun _ h => h)) (old_up (Below.tr X.out.bel (Below.drN wg x2))) (by have := hn4.out; omega)).mono ?_
      rintro e wh ⟨rfl, hbh⟩
      have bgh : Below wg.heap.size wg wh := Below.tr (Below.drN wg x2) hbh
      have BBh := Lib.hid (Below.tr BB.out bgh)
      have PYh := Lib.hid (PY.out.belF bgh (fun k hk => Nat.lt_of_lt_of_le hk ZYG.out))
      have S3h := Lib.hid (S3.out.belF bgh (fun k hk => Nat.lt_of_lt_of_le hk BB.out.size))
      have ZYh : Hid (wb.heap.size ≤ wh.heap.size) := Nat.le_trans ZYG.out bgh.size
      have hcr : wh.cell? ⟨gr, k, none⟩ = some (.slice Ak nk ck) := cell_bel HR.out.1 BBh.out
      clear bgh hbh X BB PX PY S3 S2 S4
      go_wp2_with fail
      refine (KeptBytes_sl PYh.out (fun k hk => Nat.lt_of_lt_of_le hk ZYh.out) S3h.out (fun k hk => Nat.lt_of_lt_of_le hk BBh.out.size) (by have := HR.out.2.2; omega)).mono ?_
      rintro e wi ⟨rfl, hbi⟩
      have BBi := Lib.hid (Below.tr BBh.out hbi)
      clear hbi hcr BBh PYh S3h
      go_wp2_with fail
      go_roundw
      case rel => exact ⟨k + 1, by omega, by go_num, BBi⟩
      case measure => simp [intOf]; omega
    · have hkI : ¬ (k : Int) < 3 := by omega
      go_wp2_with fail
      refine (works_any _).mono ?_
      rintro e wk ⟨rfl, hbk⟩
      go_wp2_with fail
      go_ret
      exact ⟨rfl, Below.tr X.out.bel hbk⟩
end Go.Proofs.Ytklclbppdoahjaa
/- Row: so many bytes. -/
namespace Go.Proofs.Ytklclbppdoahjaa
set_option maxRecDepth 100000
open Go.RowKit

def rowL (n : Nat) : List UInt8 := (List.range n).map fun i => UInt8.ofNat ((7 + i) % 251)
theorem rowL_len (n : Nat) : (rowL n).length = n := by simp [rowL]
theorem rowL_succ (n : Nat) : bs (rowL (n + 1)) = bs (rowL n) ++ [.int .u8 (((7 + n) % 251 : Nat) : Int)] := by
  simp only [rowL, List.range_succ, List.map_append, List.map_cons, List.map_nil, bs, bv]
  congr 3
  rw [UInt8.toNat_ofNat', Nat.mod_eq_of_lt (by simp; omega)]

set_option maxHeartbeats 400000 in
theorem Row_any (n : Nat) (w : World) (hn : n ≤ 1000000) :
    Calls Try.prog 23 #[.int .i64 (n : Int)] w fun e w' => ∃ A' c', e = .returned (.slice A' n c') ∧ w'.ownsRow w.heap.size 5 1 (.slice A' n c') n (bs (rowL n)) ∧ Below w.heap.size w w' := by
  obtain ⟨i0, hi, hz0, hz1, hz2⟩ := info_parts Try.infoB
  go_enter Try.func23, Try.ntmps23
  go_wp2_with fail
  go_loopw [3, 4] (fun v i wr => ∃ k A' c', k ≤ n ∧ v = .slice A' k c' ∧ i = .int .i64 (k : Nat) ∧ wr.ownsRow w.heap.size 5 1 (.slice A' k c') k (bs (rowL k)) ∧ Below w.heap.size w wr) (fun _ i _ => n - (intOf i).toNat)
  case atStart => exact ⟨0, none, 0, Nat.zero_le _, rfl, rfl, World.ownsRow_nil _ _ _ _, Below.refl _ _⟩
  case round =>
    obtain ⟨k, A', c', hk, rfl, rfl, hown, hbw⟩ := hrel
    by_cases hlt : k < n
    · have hlI : (k : Int) < n := by omega
      have hkI : (0 : Int) ≤ (k : Int) := by omega
      have hs := hbw.size
      have hmd : (7 + (k : Int)).tmod 251 = (((7 + k) % 251 : Nat) : Int) := (Int.ofNat_tmod (7 + k) 251).symm
      have hm2 : ((((7 + k) % 251 : Nat) : Int)) % 256 = (((7 + k) % 251 : Nat) : Int) := by omega
      have hts := Lib.hid (rowL_succ k)
      go_wp2_with (at_builtin; refine wpList_append_own _ rfl _ _ 26 rfl w.heap.size 5 i0 (.int .u8 0) 1 1 Try.underlying26 hi hz0 hz1 hz2 rfl (by decide) _ _ _ rfl (hown.alloc _) ⟨wr.heap.size, 0, none⟩ 1 1 [.int .u8 (((7 + k) % 251 : Nat) : Int)] rfl rfl (new_one _ _ _) (one_oneCell _ _) (by simp only [maxLen]; omega) (by omega) (by simp; omega) ?_; intro v' w1 hown1 hgrow _; obtain ⟨A1, c1, rfl⟩ := own_slice hown1)
      go_roundw
      case rel => exact ⟨k + 1, A1, c1, by omega, rfl, by go_num, by rw [hts.out]; exact hown1, (hbw.alloc hs _).grown hgrow (by simp; omega) (fun g hg => (hown.lt g hg).1)⟩
      case measure => simp [intOf]; omega
    · have hkl : k = n := by omega
      subst hkl
      go_wp2_with fail
      go_ret
      exact ⟨A', c', rfl, hown, hbw⟩
end Go.Proofs.Ytklclbppdoahjaa
