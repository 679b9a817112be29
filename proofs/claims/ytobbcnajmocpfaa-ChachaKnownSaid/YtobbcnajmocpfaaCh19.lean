/- ChachaBlocks' walk. -/
import Derived.Test.YtobbcnajmocpfaaCh18
import Derived.Test.YtobbcnajmocpfaaCh13
namespace Go.Proofs.Ytobbcnajmocpfaa
open Go.RowKit
attribute [local go_sem] yld yldUpon_value

/-- two arrays of bytes held against one another, in a drawn region -/
theorem os_eql_arr {ops : Array Oper} {Q : Exit → Act → World → Prop} {S : Nat → World → Prop} {i d : Nat} {r : OS} {o : Oper} {a : Act} {w : World} (T : TypeId) (x y : Operand) (T' : TypeId) (n : Nat) (l l' : List UInt8) (ho : ops.toList[i]? = some o) (hw : Region.wanted o (yielded ops a.tmps) = true)
    (hop : o.op = .binOp .eql T x y T') (hd : o.dst = some d) (hx : a.eval x = .agg (bs l).toArray) (hy : a.eval y = .agg (bs l').toArray) (hu : Try.prog.underlying T = some (.array n 5)) (hg : Try.prog.eqGuardType Try.prog.depth T = false)
    (h : l.length = n) (h' : l'.length = n) (c : Bool) (hc : (l == l') = c) (hk : ∃ a1, a.put (some d) (.bool c) = a1 ∧ wpOS Try.prog ops Q S r a1 w) : wpOS Try.prog ops Q S (.move i r) a w := by
  obtain ⟨a1, ha, hk⟩ := hk
  refine ⟨o, .bool c, by simpa using ho, .inl ⟨hw, fun w' _ => ?_⟩, by rw [hd, ha]; exact hk⟩
  have h1 := run_eq_arr w' T n l l' hu h h'
  have h2 := run_eqGuard_agg (P := Try.prog) w' .eql T x y (bs l).toArray (bs l').toArray hg
  subst hc
  unfold execOp
  simp only [hop, hx, hy, Sem.run_bind, h2, Result.andThen_ok, binOp, h1, Sem.run_pure]
set_option maxRecDepth 100000 in
set_option maxHeartbeats 8000000 in
theorem ChachaBlocks_any (w : World) (key nonce : List UInt8) (ctr : BitVec 32) (hk : key.length = 32) (hn : nonce.length = 12) :
    Calls Try.prog 3 #[.agg (bs key).toArray, .int .u32 (wv ctr), .agg (bs nonce).toArray] w fun e w' => e = .returned (.bool true) ∧ Below w.heap.size w w' := by
  have Hk := Lib.hid hk; have Hn := Lib.hid hn
  have u1 := Lib.hid Try.underlying23
  have u2 := Lib.hid Try.underlying26
  have uO := Lib.hid Try.underlying27
  have i1 : Hid ((Try.prog.info? 23).map (·.size) = some (bs key).length) := by rw [bs_length, hk]; exact Try.sizeK
  have i2 : Hid ((Try.prog.info? 26).map (·.size) = some (bs nonce).length) := by rw [bs_length, hn]; exact Try.sizeN
  clear hk hn
  have X2 := Lib.hid (RB.start w key nonce)
  go_enter Try.func3, Try.ntmps3
  go_wp2_with fail
  generalize ((w.alloc (.cells (bs key).toArray 23)).alloc (.cells (bs nonce).toArray 26)) = w2 at X2 ⊢
  have Xd : Hid (RB w w2.drew key nonce) := X2.out.frm ((Fr.refl NoB w2).drew) (fun j e => e.elim)
  have kd : Hid (w2.drew.rangeAt w.heap.size 0 (bs key)) := range_block Xd.out.k
  have nd : Hid (w2.drew.rangeAt (w.heap.size + 1) 0 (bs nonce)) := range_block Xd.out.n
  refine wp_calm ?_
  refine wp_region_os (fun j w' => match j with
    | 0 => w'.rangeAt w.heap.size 0 (bs key)
    | 2 => w'.rangeAt (w.heap.size + 1) 0 (bs nonce)
    | 4 => w'.rangeAt w.heap.size 0 (bs key)
    | 6 => w'.rangeAt (w.heap.size + 1) 0 (bs nonce)
    | _ => True) [0, 2, 4, 6]
    (.take 0 (.move 1 (.take 2 (.take 4 (.move 5 (.take 6 (.run 3 [0, 2, 4, 6] (.run 7 [0, 2, 4, 6] (.move 8 (.move 9 (.run 10 [0, 2, 4, 6] (.move 11 (.move 12 .done))))))))))))) (by kernel_rfl) (by kernel_rfl) (fun _ _ _ _ _ h => nomatch h.1) ?_
  refine os_load_mid 23 (.tmp 3) w.heap.size 0 (bs key) _ kd.out rfl rfl rfl rfl rfl u1.out rfl i1.out (fun w' h => h) ⟨_, rfl, ?_⟩
  refine os_move rfl rfl rfl (Nat.le_of_ble_eq_true rfl) ?_
  apply Exists.intro
  refine ⟨fun w' K hK => ?_, ?_⟩
  (focus
    go_simp
    exact hK)
  refine os_load_mid 26 (.tmp 5) (w.heap.size + 1) 0 (bs nonce) _ nd.out rfl rfl rfl rfl rfl u2.out rfl i2.out (fun w' h => h) ⟨_, rfl, ?_⟩
  refine os_load_mid 23 (.tmp 3) w.heap.size 0 (bs key) _ kd.out rfl rfl rfl rfl rfl u1.out rfl i1.out (fun w' h => h) ⟨_, rfl, ?_⟩
  refine os_move rfl rfl rfl (Nat.le_of_ble_eq_true rfl) ?_
  apply Exists.intro
  refine ⟨fun w' K hK => ?_, ?_⟩
  (focus
    go_simp
    exact hK)
  refine os_load_mid 26 (.tmp 5) (w.heap.size + 1) 0 (bs nonce) _ nd.out rfl rfl rfl rfl rfl u2.out rfl i2.out (fun w' h => h) ⟨_, rfl, ?_⟩
  refine os_run rfl rfl (fun K hK => ?_)
  go_wp2_with fail
  refine (Block_any w2.drew key nonce ctr Hk.out Hn.out).mono ?_
  rintro e w3 ⟨rfl, hb3⟩
  have X3 : Hid (RB w w3 key nonce) := Xd.out.frm (Fr.of_below (M := NoB) hb3) (fun j e => e.elim)
  have k3 : Hid (∀ k ∈ [0, 2, 4, 6], (match k with
    | 0 => w3.rangeAt w.heap.size 0 (bs key)
    | 2 => w3.rangeAt (w.heap.size + 1) 0 (bs nonce)
    | 4 => w3.rangeAt w.heap.size 0 (bs key)
    | 6 => w3.rangeAt (w.heap.size + 1) 0 (bs nonce)
    | _ => True)) := by
    intro k hk
    simp only [List.mem_cons, List.not_mem_nil, or_false] at hk
    rcases hk with rfl | rfl | rfl | rfl
    · exact range_block X3.out.k
    · exact range_block X3.out.n
    · exact range_block X3.out.k
    · exact range_block X3.out.n
  clear hb3 Xd kd nd X2
  go_wp2_with fail
  refine ⟨fun k hk _ => k3.out k hk, ?_⟩
  refine os_run rfl rfl (fun K hK => ?_)
  go_wp2_with fail
  refine (RefBlock_any w3 key nonce ctr Hk.out Hn.out).mono ?_
  rintro e w4 ⟨rfl, hb4⟩
  have X4 : Hid (RB w w4 key nonce) := X3.out.frm (Fr.of_below (M := NoB) hb4) (fun j e => e.elim)
  have k4 : Hid (∀ k ∈ [0, 2, 4, 6], (match k with
    | 0 => w4.rangeAt w.heap.size 0 (bs key)
    | 2 => w4.rangeAt (w.heap.size + 1) 0 (bs nonce)
    | 4 => w4.rangeAt w.heap.size 0 (bs key)
    | 6 => w4.rangeAt (w.heap.size + 1) 0 (bs nonce)
    | _ => True)) := by
    intro k hk
    simp only [List.mem_cons, List.not_mem_nil, or_false] at hk
    rcases hk with rfl | rfl | rfl | rfl
    · exact range_block X4.out.k
    · exact range_block X4.out.n
    · exact range_block X4.out.k
    · exact range_block X4.out.n
  clear hb4 X3 k3
  go_wp2_with fail
  refine ⟨fun k hk _ => k4.out k hk, ?_⟩
  refine os_eql_arr 27 (.tmp 10) (.tmp 14) _ 64 (blockP key ctr nonce) (blockP key ctr nonce) rfl rfl rfl rfl rfl rfl uO.out (by kernel_rfl) (blockP_len _ _ _) (blockP_len _ _ _) true (by simp) ⟨_, rfl, ?_⟩
  refine os_move rfl rfl rfl (Nat.le_of_ble_eq_true rfl) ?_
  apply Exists.intro
  refine ⟨fun w' K hK => ?_, ?_⟩
  (focus
    go_simp
    exact hK)
  refine os_run rfl rfl (fun K hK => ?_)
  go_wp2_with fail
  refine (works_any w4).mono ?_
  rintro e w5 ⟨rfl, hb5⟩
  have X5 : Hid (RB w w5 key nonce) := X4.out.frm (Fr.of_below (M := NoB) hb5) (fun j e => e.elim)
  have k5 : Hid (∀ k ∈ [0, 2, 4, 6], (match k with
    | 0 => w5.rangeAt w.heap.size 0 (bs key)
    | 2 => w5.rangeAt (w.heap.size + 1) 0 (bs nonce)
    | 4 => w5.rangeAt w.heap.size 0 (bs key)
    | 6 => w5.rangeAt (w.heap.size + 1) 0 (bs nonce)
    | _ => True)) := by
    intro k hk
    simp only [List.mem_cons, List.not_mem_nil, or_false] at hk
    rcases hk with rfl | rfl | rfl | rfl
    · exact range_block X5.out.k
    · exact range_block X5.out.n
    · exact range_block X5.out.k
    · exact range_block X5.out.n
  clear hb5 X4 k4
  go_wp2_with fail
  refine ⟨fun k hk _ => k5.out k hk, ?_⟩
  iterate 2 (
    refine os_move rfl rfl rfl (Nat.le_of_ble_eq_true rfl) ?_
    apply Exists.intro
    refine ⟨fun w' K hK => ?_, ?_⟩
    (focus
      go_simp
      exact hK))
  refine os_done ⟨rfl, ?_⟩
  go_wp2_with fail
  go_ret
  exact ⟨rfl, X5.out.fr⟩
theorem ChachaBlocksW_any (w : World) (key : List UInt8) (hk : key.length = 32) (ctr : Int) (hc : (Lit.int .u32 ctr).wf = true) (nonce : List UInt8) (hn : nonce.length = 12) :
    Calls Try.prog 3 #[.agg (bs key).toArray, .int .u32 ctr, .agg (bs nonce).toArray] w fun e w' => e = .returned (.bool true) ∧ Below w.heap.size w w' := by
  rw [word_of_wf hc]
  exact ChachaBlocks_any w key nonce _ hk hn
end Go.Proofs.Ytobbcnajmocpfaa
