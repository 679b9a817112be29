/- FrameLinear's walk. -/
import Derived.Test.YtmdnlgfngpgfnaaDoorFr7
namespace Go.Proofs.YtmdnlgfngpgfnaaDoor
open Go.RowKit

theorem Sl.drew_ {w : World} {F : Nat → Prop} {A : Option Addr} {n c : Nat} {l : List UInt8} (h : Sl w F A n c l) : Sl w.drew F A n c l := ⟨h.len, h.cap, h.nil, h.foot, h.rd⟩
theorem run_min_int4 {P : Program} {w : World} (ts : Array TypeId) (t : TypeId) (x y z u : Nat) : (Builtin.min_ ts t #[.int .i64 x, .int .i64 y, .int .i64 z, .int .i64 u]).run P w = .ok (.int .i64 ((min (min (min x y) z) u : Nat) : Int)) w := by
  have e : ∀ a b : Nat, (if (b : Int) < (a : Int) then (b : Int) else a) = ((min a b : Nat) : Int) := fun a b => by
    split <;> omega
  simp only [Builtin.min_, List.foldlM, Builtin.min2]
  simp
  repeat' split
  all_goals omega
attribute [local go_sem] yld yldUpon_value

set_option maxRecDepth 100000 in
set_option maxHeartbeats 2000000 in
theorem FrameLinear_any (w : World) (hS : Steps w) (A1 : Option Addr) (n1 c1 : Nat) (l1 : List UInt8) (h1 : Sl w (Old w) A1 n1 c1 l1) (b1 : n1 ≤ 140737488355000) (A2 : Option Addr) (n2 c2 : Nat) (l2 : List UInt8) (h2 : Sl w (Old w) A2 n2 c2 l2) (b2 : n2 ≤ 140737488355000)
    (A3 : Option Addr) (n3 c3 : Nat) (l3 : List UInt8) (h3 : Sl w (Old w) A3 n3 c3 l3) (b3 : n3 ≤ 140737488355000) :
    Calls Tryd.prog 6 #[.slice A1 n1 c1, .slice A2 n2 c2, .slice A3 n3 c3] w fun e w' => e = .returned (.bool true) ∧ Below w.heap.size w w' := by
  have HS := Lib.hid hS; have H1 := Lib.hid h1; have H2 := Lib.hid h2; have H3 := Lib.hid h3
  have e1 := Lib.hid h1.len; have e2 := Lib.hid h2.len; have e3 := Lib.hid h3.len
  clear hS h1 h2 h3
  go_enter Tryd.func6, Tryd.ntmps6
  have hmn : ∃ m : Nat, m = min (min (min n1 n2) n3) 4096 := ⟨_, rfl⟩
  obtain ⟨m, hm⟩ := hmn
  have hm1 : m ≤ n1 := by omega
  have hm2 : m ≤ n2 := by omega
  have hm3 : m ≤ n3 := by omega
  have hm4 : m ≤ 4096 := by omega
  have Hm := Lib.hid (And.intro hm1 (And.intro hm2 (And.intro hm3 hm4)))
  have qm : ∀ w : World, (Builtin.min_ #[3, 3, 3, 3] 3 #[.int .i64 n1, .int .i64 n2, .int .i64 n3, .int .i64 4096]).run Tryd.prog w = .ok (.int .i64 (m : Int)) w := fun w => by
    rw [hm]; exact run_min_int4 _ _ n1 n2 n3 4096
  clear hm hm1 hm2 hm3 hm4
  go_wp2_with fail
  clear qm
  go_loopw [8, 9] (fun v i w' => ∃ k A' c', k ≤ m ∧ v = .slice A' k c' ∧ i = .int .i64 (k : Nat) ∧ w'.ownsRow w.heap.size 5 1 (.slice A' k c') k (bs (x3 (l1.take k) (l2.take k) (l3.take k))) ∧ Hid (Below w.heap.size w w')) (fun _ i _ => m - (intOf i).toNat)
  case atStart => exact ⟨0, none, 0, Nat.zero_le _, rfl, rfl, by simpa [x3, bs] using World.ownsRow_nil _ _ _ _, Below.refl _ _⟩
  case round =>
    obtain ⟨k, A', c', hk, rfl, rfl, hown, hbw⟩ := hrel
    by_cases hlt : k < m
    · have hz := hbw.out.size
      have k1 : k < l1.length := by have := e1.out; have := Hm.out.1; omega
      have k2 : k < l2.length := by have := e2.out; have := Hm.out.2.1; omega
      have k3 : k < l3.length := by have := e3.out; have := Hm.out.2.2.1; omega
      obtain ⟨a1, rfl, rw1⟩ := H1.out.rd.at_ k1
      have z1 : (a1.add k).block < w.heap.size := World.block_lt_of_cell? _ _ rw1
      have r1 : wr.cell? (a1.add k) = some (.int .u8 (l1[k].toNat : Int)) := by rw [hbw.out.cell z1]; exact rw1
      obtain ⟨a2, rfl, rw2⟩ := H2.out.rd.at_ k2
      have z2 : (a2.add k).block < w.heap.size := World.block_lt_of_cell? _ _ rw2
      have r2 : wr.cell? (a2.add k) = some (.int .u8 (l2[k].toNat : Int)) := by rw [hbw.out.cell z2]; exact rw2
      obtain ⟨a3, rfl, rw3⟩ := H3.out.rd.at_ k3
      have z3 : (a3.add k).block < w.heap.size := World.block_lt_of_cell? _ _ rw3
      have r3 : wr.cell? (a3.add k) = some (.int .u8 (l3[k].toNat : Int)) := by rw [hbw.out.cell z3]; exact rw3
      have Z := Lib.hid (And.intro z1 (And.intro z2 z3))
      have SK : Hid (∀ w' : World, Below w.heap.size w w' → (w'.cell? (a1.add k) = some (.int .u8 (l1[k].toNat : Int)) ∧ w'.cell? (a2.add k) = some (.int .u8 (l2[k].toNat : Int)) ∧ w'.cell? (a3.add k) = some (.int .u8 (l3[k].toNat : Int)))) :=
        fun w' hb' => ⟨by rw [hb'.cell z1]; exact rw1, by rw [hb'.cell z2]; exact rw2, by rw [hb'.cell z3]; exact rw3⟩
      clear rw1 rw2 rw3 z1 z2 z3
      have hlI : (k : Int) < m := by omega
      have hkI : (0 : Int) ≤ (k : Int) := by omega
      have i1 : (k : Int) < n1 := by have := Hm.out.1; omega
      have i2 : (k : Int) < n2 := by have := Hm.out.2.1; omega
      have i3 : (k : Int) < n3 := by have := Hm.out.2.2.1; omega
      have hx := Lib.hid (x3_take k1 k2 k3)
      have hk4 : k < 4096 := by have := Hm.out.2.2.2; omega
      have hxor : bits .xor .u8 (bits .xor .u8 (l1[k].toNat : Int) (l2[k].toNat : Int)) (l3[k].toNat : Int) = ((l1[k] ^^^ l2[k] ^^^ l3[k]).toNat : Int) := by rw [xor_byte, xor_byte]
      have Hxor := Lib.hid hxor
      have r1' := r1; have r2' := r2; have r3' := r3
      clear hxor
      go_wp2_with fail
      have hS0 := Lib.hid (show wr.drew.cell? (a1.add k) = some (.int .u8 (l1[k].toNat : Int)) ∧ wr.drew.cell? (a2.add k) = some (.int .u8 (l2[k].toNat : Int)) ∧ wr.drew.cell? (a3.add k) = some (.int .u8 (l3[k].toNat : Int)) from ⟨r1', r2', r3'⟩)
      refine wp_region_ord (fun w' => w'.cell? (a1.add k) = some (.int .u8 (l1[k].toNat : Int)) ∧ w'.cell? (a2.add k) = some (.int .u8 (l2[k].toNat : Int)) ∧ w'.cell? (a3.add k) = some (.int .u8 (l3[k].toNat : Int))) 18
        [(0, true), (1, true), (2, true), (3, true), (4, true), (5, true), (6, true), (7, true), (8, true), (9, true), (10, true), (11, true), (12, true), (13, true), (14, true), (15, false), (16, false), (17, false)]
        (by kernel_rfl) (by kernel_rfl) (fun _ _ _ _ _ h => h) ?_
      iterate 14 (
        refine ord_yld hS0.out rfl rfl rfl (Nat.le_of_ble_eq_true rfl) ?_
        apply Exists.intro
        refine ⟨fun w' hS' K hK => ?_, ?_⟩
        (focus
          obtain ⟨q1, q2, q3⟩ := hS'
          go_simp
          exact hK))
      iterate 1 (
        refine ord_yld hS0.out rfl rfl rfl (Nat.le_of_ble_eq_true rfl) ?_
        apply Exists.intro
        refine ⟨fun w' hS' K hK => ?_, ?_⟩
        (focus
          obtain ⟨q1, q2, q3⟩ := hS'
          go_simp
          exact hK))
      refine ord_run rfl rfl (fun K hK => ?_)
      rw [Hxor.out]
      clear Hxor
      generalize l1[k] ^^^ l2[k] ^^^ l3[k] = u at hx ⊢
      go_wp2_with fail
      have hb1 : Hid (Below w.heap.size w (wr.alloc (.cells #[.int .u8 (u.toNat : Int)] 5)).drew) := (hbw.out.alloc hz _).drew
      refine ⟨fun _ => SK.out _ hb1.out, ?_⟩
      refine ord_run rfl rfl (fun K hK => ?_)
      have hrd : Rd (wr.alloc (.cells #[.int .u8 (u.toNat : Int)] 5)).drew (some ⟨wr.heap.size, 0, none⟩) (bs [u]) := Rd.one wr u
      have hown1 : (wr.alloc (.cells #[.int .u8 (u.toNat : Int)] 5)).drew.ownsRow w.heap.size 5 1 (.slice A' k c') k (bs (x3 (l1.take k) (l2.take k) (l3.take k))) := own_fr (hown.alloc _) (Fr.drew (Fr.refl NoB _)) (fun _ _ e => e)
      have hzz : w.heap.size ≤ (wr.alloc (.cells #[.int .u8 (u.toNat : Int)] 5)).drew.heap.size := hb1.out.size
      generalize (wr.alloc (.cells #[.int .u8 (u.toNat : Int)] 5)).drew = w1 at hb1 hrd hown1 hzz ⊢
      refine wp_append_bytes _ _ rfl w.heap.size A' k c' _ rfl hown1 (some ⟨wr.heap.size, 0, none⟩) 1 1 [u] rfl rfl hrd (by omega) hzz ?_
      intro A4 c4 w4 hown4 hg4 hat4
      have hb4 : Hid (Below w.heap.size w w4) := hb1.out.grown hg4 hzz (fun j hj => (hown1.lt j hj).1)
      refine hK _ _ ⟨fun _ => SK.out _ hb4.out, ?_⟩
      clear hK K
      simp only [Act.put, List.setIfInBounds_toArray, List.set_cons_zero, List.set_cons_succ]
      refine ord_run rfl rfl (fun K hK => ?_)
      refine hK _ _ ⟨fun _ => SK.out _ hb4.out, ?_⟩
      clear hK K
      refine ord_end ?_
      simp only [Act.put, List.setIfInBounds_toArray, List.set_cons_zero, List.set_cons_succ]
      go_wp2_with fail
      go_roundw
      case rel => exact ⟨k + 1, A4, c4, by omega, rfl, by go_num, by rw [hx.out]; exact hown4, hb4⟩
      case measure => simp [intOf] <;> omega
    · obtain rfl : k = m := by omega
      have hs1 := Lib.hid ((H1.out.fr (Fr.of_below (M := NoB) hbw.out) (fun j hj => ⟨hj, id⟩)))
      have hs2 := Lib.hid ((H2.out.fr (Fr.of_below (M := NoB) hbw.out) (fun j hj => ⟨hj, id⟩)))
      have hs3 := Lib.hid ((H3.out.fr (Fr.of_below (M := NoB) hbw.out) (fun j hj => ⟨hj, id⟩)))
      have hcap1 := H1.out.cap; have hcap2 := H2.out.cap; have hcap3 := H3.out.cap
      have hk1 := Hm.out.1; have hk2 := Hm.out.2.1; have hk3 := Hm.out.2.2.1
      have t1 : Hid (Sl wr (Old w) A1 k c1 (l1.take k)) := Sl.take_ (l' := l1.drop k) (by rw [List.take_append_drop]; exact hs1.out) (by rw [List.length_take]; have := e1.out; omega)
      have t2 : Hid (Sl wr (Old w) A2 k c2 (l2.take k)) := Sl.take_ (l' := l2.drop k) (by rw [List.take_append_drop]; exact hs2.out) (by rw [List.length_take]; have := e2.out; omega)
      have t3 : Hid (Sl wr (Old w) A3 k c3 (l3.take k)) := Sl.take_ (l' := l3.drop k) (by rw [List.take_append_drop]; exact hs3.out) (by rw [List.length_take]; have := e3.out; omega)
      have hSr := Lib.hid (HS.out.below hbw.out HS.out.pos)
      have hcx := Lib.hid (crc_x3 (l1.take k) (l2.take k) (l3.take k) (by rw [List.length_take, List.length_take]; have := e1.out; have := e2.out; omega) (by rw [List.length_take, List.length_take]; have := e1.out; have := e3.out; omega))
      have hki1 : (k : Int) ≤ (c1 : Int) := by omega
      have hki2 : (k : Int) ≤ (c2 : Int) := by omega
      have hki3 : (k : Int) ≤ (c3 : Int) := by omega
      have hown' := Lib.hid hown
      clear hown
      go_wp2_with fail
      refine wp_region_ord (fun _ => True) 21
        [(0, true), (2, true), (3, true), (4, true), (6, true), (7, true), (8, true), (11, true), (12, true), (13, true), (1, false), (5, false), (9, false), (10, true), (14, false), (15, true), (16, true), (17, true), (18, false), (19, true), (20, false)]
        (by kernel_rfl) (by kernel_rfl) (fun _ _ _ _ _ h => h) ?_
      iterate 10 (
        refine ord_yld trivial rfl rfl rfl (Nat.le_of_ble_eq_true rfl) ?_
        apply Exists.intro
        refine ⟨fun w' hS' K hK => ?_, ?_⟩
        (focus
          go_simp
          exact hK))
      refine ord_run rfl rfl (fun K hK => ?_)
      go_wp2_with fail
      refine (Sum_any (w := wr.drew) hSr.out (Sl.drew_ (Sl.of_own hown'.out)) (by omega)).mono ?_
      rintro e w' ⟨rfl, rfl⟩
      refine hK _ _ ⟨fun _ => trivial, ?_⟩
      clear hK K
      refine ord_run rfl rfl (fun K hK => ?_)
      go_wp2_with fail
      refine (Sum_any (w := wr.drew) hSr.out (Sl.drew_ t1.out) (by omega)).mono ?_
      rintro e w' ⟨rfl, rfl⟩
      refine hK _ _ ⟨fun _ => trivial, ?_⟩
      clear hK K
      refine ord_run rfl rfl (fun K hK => ?_)
      go_wp2_with fail
      refine (Sum_any (w := wr.drew) hSr.out (Sl.drew_ t2.out) (by omega)).mono ?_
      rintro e w' ⟨rfl, rfl⟩
      refine hK _ _ ⟨fun _ => trivial, ?_⟩
      clear hK K
      iterate 1 (
        refine ord_yld trivial rfl rfl rfl (Nat.le_of_ble_eq_true rfl) ?_
        apply Exists.intro
        refine ⟨fun w' hS' K hK => ?_, ?_⟩
        (focus
          go_simp
          rw [xor32]
          exact hK))
      refine ord_run rfl rfl (fun K hK => ?_)
      go_wp2_with fail
      refine (Sum_any (w := wr.drew) hSr.out (Sl.drew_ t3.out) (by omega)).mono ?_
      rintro e w' ⟨rfl, rfl⟩
      refine hK _ _ ⟨fun _ => trivial, ?_⟩
      clear hK K
      iterate 1 (
        refine ord_yld trivial rfl rfl rfl (Nat.le_of_ble_eq_true rfl) ?_
        apply Exists.intro
        refine ⟨fun w' hS' K hK => ?_, ?_⟩
        (focus
          go_simp
          rw [xor32]
          exact hK))
      iterate 1 (
        refine ord_yld trivial rfl rfl rfl (Nat.le_of_ble_eq_true rfl) ?_
        apply Exists.intro
        refine ⟨fun w' hS' K hK => ?_, ?_⟩
        (focus
          go_simp
          rw [hcx.out]
          simp only [beq_self_eq_true]
          exact hK))
      iterate 1 (
        refine ord_yld trivial rfl rfl rfl (Nat.le_of_ble_eq_true rfl) ?_
        apply Exists.intro
        refine ⟨fun w' hS' K hK => ?_, ?_⟩
        (focus
          go_simp
          exact hK))
      refine ord_runG rfl rfl (fun K hK => ?_)
      go_wp2_with fail
      refine (works_any wr.drew hSr.out).mono ?_
      rintro e w5 ⟨rfl, hb5⟩
      refine hK _ _ ⟨fun _ => trivial, ?_⟩
      clear hK K
      iterate 1 (
        refine ord_yld trivial rfl rfl rfl (Nat.le_of_ble_eq_true rfl) ?_
        apply Exists.intro
        refine ⟨fun w' hS' K hK => ?_, ?_⟩
        (focus
          go_simp
          exact hK))
      refine ord_run rfl rfl (fun K hK => ?_)
      refine hK _ _ ⟨fun _ => trivial, ?_⟩
      clear hK K
      refine ord_end ?_
      simp only [Act.put, List.setIfInBounds_toArray, List.set_cons_zero, List.set_cons_succ]
      go_wp2_with fail
      go_ret
      exact ⟨rfl, hbw.out.drew.trans (hb5.mono hbw.out.size)⟩
end Go.Proofs.YtmdnlgfngpgfnaaDoor
