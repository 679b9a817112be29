/- The disk: Crash, the walk. -/
import Derived.Test.YtjfnpndpigpaiaaDk12
namespace Go.Proofs.Ytjfnpndpigpaiaa
open Go.RowKit
attribute [local go_sem] yld yldUpon_value

set_option maxRecDepth 100000 in
set_option maxHeartbeats 8000000 in
theorem Crash_any {w : World} {g : Nat} {D : DD} {vs : Vs} (h : DiskAt w g D vs) (ok : DOK D) {F : Nat → Prop} {A : Option Addr} {n c : Nat} {keep : List Int} (hI : IntSl w F A n c keep) (hF : ∀ k, F k → k < w.heap.size ∧ ¬ dfoot g vs k) (hn : n ≤ 140737488355328) :
    Calls Try.prog 14 #[.pointer (some ⟨g, 0, none⟩), .slice A n c] w fun e w' => e = .returned (.tuple #[]) ∧ Dstep g vs w w' (crashD D keep) := by
  have H := Lib.hid h; have OK := Lib.hid ok; have HF := Lib.hid hF; have HN := Lib.hid hn
  have HI := Lib.hid hI
  have hlen : Hid (D.fs.length = 33) := h.len
  clear h ok hF hn hI
  go_enter Try.func14, Try.ntmps14
  go_wp2_with fail
  go_loopw [1, 8] (fun kp i wr => ∃ (k : Nat) (A1 : Option Addr) (n1 c1 : Nat) (kl : List Int) (pre : List FF) (vs1 : Vs), k ≤ 33 ∧ n1 ≤ 140737488355328 ∧ i = .int .i64 (k : Nat) ∧ kp = .slice A1 n1 c1 ∧ Hid (CrashI w wr g D vs keep F k A1 n1 c1 kl pre vs1)) (fun _ i _ => 33 - (intOf i).toNat)
  case atStart => exact ⟨0, A, n, c, keep, [], vs, Nat.zero_le _, HN.out, rfl, rfl, H.out, rfl, rfl, HI.out, Fr.refl _ _, fun _ h => .inl h⟩
  case round =>
    obtain ⟨k, A1, n1, c1, kl, pre, vs1, hk, hn1, rfl, rfl, HC⟩ := hrel
    by_cases hlt : k < 33
    · have hlI : (k : Int) < 33 := by omega
      have hk0 : (0 : Int) ≤ (k : Int) := by omega
      have hkl : Hid (k < D.fs.length) := by show _ < _; rw [hlen.out]; exact hlt
      have Hk33 := Lib.hid hlt
      obtain ⟨V, hV⟩ : ∃ V, V = (D.file k).d.length := ⟨_, rfl⟩
      obtain ⟨K, hK⟩ : ∃ K, K = (D.file k).k := ⟨_, rfl⟩
      have hKV := OK.out.file_k k
      have hVb := OK.out.file_le k
      have hcd := HC.out.disk.cData k hlt
      have hcl := HC.out.disk.cLast k hlt
      rw [HC.out.file hkl.out] at hcd hcl
      have hcap := (HC.out.disk.file k hlt).sl.cap
      rw [HC.out.file hkl.out] at hcap
      rw [← hV] at hcd hVb hKV hcap
      rw [← hK] at hcl hKV
      have HV := Lib.hid hV; have HK := Lib.hid hK
      have lg := HC.out.disk.gt
      have hz1 := HC.out.disk.frozen (1 + k * 2 + 1)
      obtain ⟨cc, hcc⟩ : ∃ cc, cc = vC vs1 k := ⟨_, rfl⟩
      rw [← hcc] at hcd hcap
      have Hcc := Lib.hid hcc
      have hw1 : IntKind.i64.wrap ((V : Int) - (K : Int)) = (V : Int) - (K : Int) := IntWalk.i64_in _ (by omega)
      clear hV hK hcc
      by_cases hloose : V = K
      · subst hloose
        have hw2 : (V : Int) - (V : Int) = 0 := by omega
        go_wp2_with fail
        refine wp_calm ?_
        refine wp_region_os (fun _ w' => Below (wr).drew.heap.size (wr).drew w') [3, 8] (.move 0 (.move 1 (.move 2 (.take 3 (.move 4 (.move 5 (.move 6 (.move 7 (.take 8 (.move 9 (.move 10 .done))))))))))) (by kernel_rfl) (by kernel_rfl) (fun _ _ _ _ _ h => nomatch h.1) ?_
        have hS0 : Below (wr).drew.heap.size (wr).drew (wr).drew := Below.refl _ _
        refine os_move rfl rfl rfl (Nat.le_of_ble_eq_true rfl) ?_
        apply Exists.intro
        refine ⟨fun w' K hK => ?_, ?_⟩
        (focus
          go_simp
          exact hK)
        refine os_move rfl rfl rfl (Nat.le_of_ble_eq_true rfl) ?_
        apply Exists.intro
        refine ⟨fun w' K hK => ?_, ?_⟩
        (focus
          go_simp
          exact hK)
        refine os_move rfl rfl rfl (Nat.le_of_ble_eq_true rfl) ?_
        apply Exists.intro
        refine ⟨fun w' K hK => ?_, ?_⟩
        (focus
          go_simp
          exact hK)
        refine os_yld hS0 rfl rfl rfl (Nat.le_of_ble_eq_true rfl) ?_
        apply Exists.intro
        refine ⟨fun w' hS' K hK => ?_, ?_⟩
        (focus
          obtain ⟨hcc, hff⟩ := bcellB (Below.undr hS')
          clear hS'
          go_simp
          exact hK)
        refine os_move rfl rfl rfl (Nat.le_of_ble_eq_true rfl) ?_
        apply Exists.intro
        refine ⟨fun w' K hK => ?_, ?_⟩
        (focus
          go_simp
          exact hK)
        refine os_move rfl rfl rfl (Nat.le_of_ble_eq_true rfl) ?_
        apply Exists.intro
        refine ⟨fun w' K hK => ?_, ?_⟩
        (focus
          go_simp
          exact hK)
        refine os_move rfl rfl rfl (Nat.le_of_ble_eq_true rfl) ?_
        apply Exists.intro
        refine ⟨fun w' K hK => ?_, ?_⟩
        (focus
          go_simp
          exact hK)
        refine os_move rfl rfl rfl (Nat.le_of_ble_eq_true rfl) ?_
        apply Exists.intro
        refine ⟨fun w' K hK => ?_, ?_⟩
        (focus
          go_simp
          exact hK)
        refine os_yld hS0 rfl rfl rfl (Nat.le_of_ble_eq_true rfl) ?_
        apply Exists.intro
        refine ⟨fun w' hS' K hK => ?_, ?_⟩
        (focus
          obtain ⟨hcc, hff⟩ := bcellB (Below.undr hS')
          clear hS'
          go_simp
          exact hK)
        refine os_move rfl rfl rfl (Nat.le_of_ble_eq_true rfl) ?_
        apply Exists.intro
        refine ⟨fun w' K hK => ?_, ?_⟩
        (focus
          go_simp
          exact hK)
        refine os_move rfl rfl rfl (Nat.le_of_ble_eq_true rfl) ?_
        apply Exists.intro
        refine ⟨fun w' K hK => ?_, ?_⟩
        (focus
          go_simp
          exact hK)
        refine os_done ⟨rfl, ?_⟩
        go_wp2_with fail
        go_roundw
        case rel => exact ⟨k + 1, A1, n1, c1, kl, _, vs1, by omega, hn1, by go_num, rfl, HC.out.skip hkl.out (by rw [← HV.out, ← HK.out]) (Below.dr1 wr) (fun k hk => (HF.out k hk).1)⟩
        case measure => simp [intOf]; omega
      · obtain ⟨L, hL⟩ : ∃ L, V = K + L := ⟨V - K, by omega⟩
        have HKL := Lib.hid hL
        have hL0 : 0 < L := by omega
        have hLb : L ≤ 262144 := by omega
        have hw2 : IntKind.i64.wrap ((V : Int) - (K : Int)) = (L : Int) := by rw [hw1]; omega
        have hLe : ((L : Int) == 0) = false := by simp; omega
        clear hw1 hL hloose
        cases kl with
        | nil =>
          have hn0 : n1 = 0 := by have := HC.out.isl.len; simpa using this.symm
          subst hn0
          have HT : Hid (IntSl wr F A1 0 c1 ([] : List Int).tail) := HC.out.isl
          have hKVI : (K : Int) ≤ (V : Int) := by omega
          have hKc : (K : Int) ≤ (cc : Int) := by omega
          have hK0 : (0 : Int) ≤ (K : Int) := by omega
          go_wp2_with fail
          refine wp_calm ?_
          refine wp_region_os (fun _ w' => Below (wr).drew.heap.size (wr).drew w') [3, 8] (.move 0 (.move 1 (.move 2 (.take 3 (.move 4 (.move 5 (.move 6 (.move 7 (.take 8 (.move 9 (.move 10 .done))))))))))) (by kernel_rfl) (by kernel_rfl) (fun _ _ _ _ _ h => nomatch h.1) ?_
          have hS0 : Below (wr).drew.heap.size (wr).drew (wr).drew := Below.refl _ _
          refine os_move rfl rfl rfl (Nat.le_of_ble_eq_true rfl) ?_
          apply Exists.intro
          refine ⟨fun w' K hK => ?_, ?_⟩
          (focus
            go_simp
            exact hK)
          refine os_move rfl rfl rfl (Nat.le_of_ble_eq_true rfl) ?_
          apply Exists.intro
          refine ⟨fun w' K hK => ?_, ?_⟩
          (focus
            go_simp
            exact hK)
          refine os_move rfl rfl rfl (Nat.le_of_ble_eq_true rfl) ?_
          apply Exists.intro
          refine ⟨fun w' K hK => ?_, ?_⟩
          (focus
            go_simp
            exact hK)
          refine os_yld hS0 rfl rfl rfl (Nat.le_of_ble_eq_true rfl) ?_
          apply Exists.intro
          refine ⟨fun w' hS' K hK => ?_, ?_⟩
          (focus
            obtain ⟨hcc, hff⟩ := bcellB (Below.undr hS')
            clear hS'
            go_simp
            exact hK)
          refine os_move rfl rfl rfl (Nat.le_of_ble_eq_true rfl) ?_
          apply Exists.intro
          refine ⟨fun w' K hK => ?_, ?_⟩
          (focus
            go_simp
            exact hK)
          refine os_move rfl rfl rfl (Nat.le_of_ble_eq_true rfl) ?_
          apply Exists.intro
          refine ⟨fun w' K hK => ?_, ?_⟩
          (focus
            go_simp
            exact hK)
          refine os_move rfl rfl rfl (Nat.le_of_ble_eq_true rfl) ?_
          apply Exists.intro
          refine ⟨fun w' K hK => ?_, ?_⟩
          (focus
            go_simp
            exact hK)
          refine os_move rfl rfl rfl (Nat.le_of_ble_eq_true rfl) ?_
          apply Exists.intro
          refine ⟨fun w' K hK => ?_, ?_⟩
          (focus
            go_simp
            exact hK)
          refine os_yld hS0 rfl rfl rfl (Nat.le_of_ble_eq_true rfl) ?_
          apply Exists.intro
          refine ⟨fun w' hS' K hK => ?_, ?_⟩
          (focus
            obtain ⟨hcc, hff⟩ := bcellB (Below.undr hS')
            clear hS'
            go_simp
            exact hK)
          refine os_move rfl rfl rfl (Nat.le_of_ble_eq_true rfl) ?_
          apply Exists.intro
          refine ⟨fun w' K hK => ?_, ?_⟩
          (focus
            go_simp
            exact hK)
          refine os_move rfl rfl rfl (Nat.le_of_ble_eq_true rfl) ?_
          apply Exists.intro
          refine ⟨fun w' K hK => ?_, ?_⟩
          (focus
            go_simp
            exact hK)
          refine os_done ⟨rfl, ?_⟩
          clear hw2

          go_wp2_with fail
          obtain ⟨wb, hwb⟩ : ∃ wb, wb = (wr.setCell ⟨g, 1 + k * 2 + 1, none⟩ (.int .i64 ((K : Nat) : Int))).drew := ⟨_, rfl⟩
          rw [← hwb]
          have hDb : Hid (DiskAt wb g (DD.put { D with fs := pre ++ D.fs.drop k } k ⟨(DD.file { D with fs := pre ++ D.fs.drop k } k).d, K⟩) vs1) := by
            rw [hwb]; exact (HC.out.disk.setLast Hk33.out K).bel (Below.dr1 _)
          have cb1 := hDb.out.cData k Hk33.out
          have cb2 := hDb.out.cLast k Hk33.out
          rw [file_put (by rw [HC.out.disk.len]; exact Hk33.out), if_pos rfl] at cb1 cb2
          simp only [HC.out.file hkl.out] at cb1 cb2
          rw [← HV.out, ← Hcc.out] at cb1
          have hz2 := hDb.out.frozen (1 + k * 2)
          have lgb := hDb.out.gt
          have Hwb := Lib.hid hwb
          clear hcd hcl hz1 hwb 
          refine wp_calm ?_
          refine wp_region_os (fun _ w' => Below (wb).drew.heap.size (wb).drew w') [4, 8, 12] (.move 0 (.move 1 (.move 2 (.move 3 (.take 4 (.move 5 (.move 6 (.move 7 (.take 8 (.move 9 (.move 10 (.move 11 (.take 12 (.move 13 (.move 14 (.move 15 (.run 16 [] .done))))))))))))))))) (by kernel_rfl) (by kernel_rfl) (fun _ _ _ _ _ h => nomatch h.1) ?_
          have hS0 : Below (wb).drew.heap.size (wb).drew (wb).drew := Below.refl _ _
          refine os_move rfl rfl rfl (Nat.le_of_ble_eq_true rfl) ?_
          apply Exists.intro
          refine ⟨fun w' K hK => ?_, ?_⟩
          (focus
            go_simp
            exact hK)
          refine os_move rfl rfl rfl (Nat.le_of_ble_eq_true rfl) ?_
          apply Exists.intro
          refine ⟨fun w' K hK => ?_, ?_⟩
          (focus
            go_simp
            exact hK)
          refine os_move rfl rfl rfl (Nat.le_of_ble_eq_true rfl) ?_
          apply Exists.intro
          refine ⟨fun w' K hK => ?_, ?_⟩
          (focus
            go_simp
            exact hK)
          refine os_move rfl rfl rfl (Nat.le_of_ble_eq_true rfl) ?_
          apply Exists.intro
          refine ⟨fun w' K hK => ?_, ?_⟩
          (focus
            go_simp
            exact hK)
          refine os_yld hS0 rfl rfl rfl (Nat.le_of_ble_eq_true rfl) ?_
          apply Exists.intro
          refine ⟨fun w' hS' K hK => ?_, ?_⟩
          (focus
            obtain ⟨hcc, hff⟩ := bcellB (Below.undr hS')
            clear hS'
            go_simp
            exact hK)
          refine os_move rfl rfl rfl (Nat.le_of_ble_eq_true rfl) ?_
          apply Exists.intro
          refine ⟨fun w' K hK => ?_, ?_⟩
          (focus
            go_simp
            exact hK)
          refine os_move rfl rfl rfl (Nat.le_of_ble_eq_true rfl) ?_
          apply Exists.intro
          refine ⟨fun w' K hK => ?_, ?_⟩
          (focus
            go_simp
            exact hK)
          refine os_move rfl rfl rfl (Nat.le_of_ble_eq_true rfl) ?_
          apply Exists.intro
          refine ⟨fun w' K hK => ?_, ?_⟩
          (focus
            go_simp
            exact hK)
          refine os_yld hS0 rfl rfl rfl (Nat.le_of_ble_eq_true rfl) ?_
          apply Exists.intro
          refine ⟨fun w' hS' K hK => ?_, ?_⟩
          (focus
            obtain ⟨hcc, hff⟩ := bcellB (Below.undr hS')
            clear hS'
            go_simp
            exact hK)
          refine os_move rfl rfl rfl (Nat.le_of_ble_eq_true rfl) ?_
          apply Exists.intro
          refine ⟨fun w' K hK => ?_, ?_⟩
          (focus
            go_simp
            exact hK)
          refine os_move rfl rfl rfl (Nat.le_of_ble_eq_true rfl) ?_
          apply Exists.intro
          refine ⟨fun w' K hK => ?_, ?_⟩
          (focus
            go_simp
            exact hK)
          refine os_move rfl rfl rfl (Nat.le_of_ble_eq_true rfl) ?_
          apply Exists.intro
          refine ⟨fun w' K hK => ?_, ?_⟩
          (focus
            go_simp
            exact hK)
          refine os_yld hS0 rfl rfl rfl (Nat.le_of_ble_eq_true rfl) ?_
          apply Exists.intro
          refine ⟨fun w' hS' K hK => ?_, ?_⟩
          (focus
            obtain ⟨hcc, hff⟩ := bcellB (Below.undr hS')
            clear hS'
            go_simp
            exact hK)
          refine os_move rfl rfl rfl (Nat.le_of_ble_eq_true rfl) ?_
          apply Exists.intro
          refine ⟨fun w' K hK => ?_, ?_⟩
          (focus
            go_simp
            exact hK)
          refine os_move rfl rfl rfl (Nat.le_of_ble_eq_true rfl) ?_
          apply Exists.intro
          refine ⟨fun w' K hK => ?_, ?_⟩
          (focus
            go_simp
            exact hK)
          refine os_move rfl rfl rfl (Nat.le_of_ble_eq_true rfl) ?_
          apply Exists.intro
          refine ⟨fun w' K hK => ?_, ?_⟩
          (focus
            go_simp
            exact hK)
          refine os_run rfl rfl (fun K hK => ?_)
          go_wp2_with fail
          refine ⟨fun _ hk => absurd hk List.not_mem_nil, ?_⟩
          refine os_done ⟨rfl, ?_⟩
          go_wp2_with fail
          go_roundw
          case rel =>
            have hnext := HC.out.next hkl.out Hk33.out (by rw [← HV.out, ← HK.out]; have := HKL.out; omega) (st := 0) (by rw [← HV.out, ← HK.out]; simp only [List.headD_cons, List.headD_nil]; have := HKL.out; omega) (by rw [← HV.out, ← HK.out]; exact hKV) (A2 := A1) (n2 := 0) (c2 := c1) (b := wb.drew) HT.out (Below.refl _ _) (by rw [← HK.out, Hwb.out]; exact ⟨rfl, rfl, rfl, Nat.le_refl _, fun _ _ => rfl⟩) HF.out
            rw [← HK.out] at hnext
            exact ⟨k + 1, A1, 0, c1, _, _, _, by omega, by omega, by go_num, rfl, hnext⟩
          case measure => simp [intOf]; omega
        | cons x r =>
          have hnl : 0 < n1 := by have := HC.out.isl.len; simp only [List.length_cons] at this; omega
          have hnc := HC.out.isl.cap
          obtain ⟨ad, hA1, hadF, hcx⟩ := HC.out.isl.at_ 0 (by simp)
          subst hA1
          have hadl : ad.block < wr.heap.size := by
            have := (HF.out _ hadF).1; have := HC.out.fr.size; omega
          have hadg : ad.block ≠ g := fun e => (HF.out _ hadF).2 (.inl e)
          have hcx : wr.cell? ad = some (.int .i64 x) := by simpa [Addr.add] using hcx
          have hn1I : (0 : Int) < (n1 : Int) := by omega
          have h1n : (1 : Int) ≤ (n1 : Int) := by omega
          have h1c : (1 : Int) ≤ (c1 : Int) := by omega
          clear hadF
          by_cases hc1 : c1 = 1
          · subst hc1
            obtain rfl : n1 = 1 := by omega
            have HT : Hid (IntSl wr F (some ad) (0) (0) (x :: r).tail) := HC.out.isl.tail (A' := some ad) (.inr rfl)
            by_cases hx0 : x ≤ 0
            · have hxL : x ≤ (L : Int) := by omega
              have hKVI : (K : Int) ≤ (V : Int) := by omega
              have hKc : (K : Int) ≤ (cc : Int) := by omega
              have hK0 : (0 : Int) ≤ (K : Int) := by omega
              go_wp2_with fail
              refine wp_calm ?_
              refine wp_region_os (fun _ w' => Below (wr).drew.heap.size (wr).drew w') [3, 8] (.move 0 (.move 1 (.move 2 (.take 3 (.move 4 (.move 5 (.move 6 (.move 7 (.take 8 (.move 9 (.move 10 .done))))))))))) (by kernel_rfl) (by kernel_rfl) (fun _ _ _ _ _ h => nomatch h.1) ?_
              have hS0 : Below (wr).drew.heap.size (wr).drew (wr).drew := Below.refl _ _
              refine os_move rfl rfl rfl (Nat.le_of_ble_eq_true rfl) ?_
              apply Exists.intro
              refine ⟨fun w' K hK => ?_, ?_⟩
              (focus
                go_simp
                exact hK)
              refine os_move rfl rfl rfl (Nat.le_of_ble_eq_true rfl) ?_
              apply Exists.intro
              refine ⟨fun w' K hK => ?_, ?_⟩
              (focus
                go_simp
                exact hK)
              refine os_move rfl rfl rfl (Nat.le_of_ble_eq_true rfl) ?_
              apply Exists.intro
              refine ⟨fun w' K hK => ?_, ?_⟩
              (focus
                go_simp
                exact hK)
              refine os_yld hS0 rfl rfl rfl (Nat.le_of_ble_eq_true rfl) ?_
              apply Exists.intro
              refine ⟨fun w' hS' K hK => ?_, ?_⟩
              (focus
                obtain ⟨hcc, hff⟩ := bcellB (Below.undr hS')
                clear hS'
                go_simp
                exact hK)
              refine os_move rfl rfl rfl (Nat.le_of_ble_eq_true rfl) ?_
              apply Exists.intro
              refine ⟨fun w' K hK => ?_, ?_⟩
              (focus
                go_simp
                exact hK)
              refine os_move rfl rfl rfl (Nat.le_of_ble_eq_true rfl) ?_
              apply Exists.intro
              refine ⟨fun w' K hK => ?_, ?_⟩
              (focus
                go_simp
                exact hK)
              refine os_move rfl rfl rfl (Nat.le_of_ble_eq_true rfl) ?_
              apply Exists.intro
              refine ⟨fun w' K hK => ?_, ?_⟩
              (focus
                go_simp
                exact hK)
              refine os_move rfl rfl rfl (Nat.le_of_ble_eq_true rfl) ?_
              apply Exists.intro
              refine ⟨fun w' K hK => ?_, ?_⟩
              (focus
                go_simp
                exact hK)
              refine os_yld hS0 rfl rfl rfl (Nat.le_of_ble_eq_true rfl) ?_
              apply Exists.intro
              refine ⟨fun w' hS' K hK => ?_, ?_⟩
              (focus
                obtain ⟨hcc, hff⟩ := bcellB (Below.undr hS')
                clear hS'
                go_simp
                exact hK)
              refine os_move rfl rfl rfl (Nat.le_of_ble_eq_true rfl) ?_
              apply Exists.intro
              refine ⟨fun w' K hK => ?_, ?_⟩
              (focus
                go_simp
                exact hK)
              refine os_move rfl rfl rfl (Nat.le_of_ble_eq_true rfl) ?_
              apply Exists.intro
              refine ⟨fun w' K hK => ?_, ?_⟩
              (focus
                go_simp
                exact hK)
              refine os_done ⟨rfl, ?_⟩
              clear hw2

              go_wp2_with fail
              obtain ⟨wb, hwb⟩ : ∃ wb, wb = (wr.setCell ⟨g, 1 + k * 2 + 1, none⟩ (.int .i64 ((K : Nat) : Int))).drew := ⟨_, rfl⟩
              rw [← hwb]
              have hDb : Hid (DiskAt wb g (DD.put { D with fs := pre ++ D.fs.drop k } k ⟨(DD.file { D with fs := pre ++ D.fs.drop k } k).d, K⟩) vs1) := by
                rw [hwb]; exact (HC.out.disk.setLast Hk33.out K).bel (Below.dr1 _)
              have cb1 := hDb.out.cData k Hk33.out
              have cb2 := hDb.out.cLast k Hk33.out
              rw [file_put (by rw [HC.out.disk.len]; exact Hk33.out), if_pos rfl] at cb1 cb2
              simp only [HC.out.file hkl.out] at cb1 cb2
              rw [← HV.out, ← Hcc.out] at cb1
              have hz2 := hDb.out.frozen (1 + k * 2)
              have lgb := hDb.out.gt
              have Hwb := Lib.hid hwb
              clear hcd hcl hz1 hwb 
              refine wp_calm ?_
              refine wp_region_os (fun _ w' => Below (wb).drew.heap.size (wb).drew w') [4, 8, 12] (.move 0 (.move 1 (.move 2 (.move 3 (.take 4 (.move 5 (.move 6 (.move 7 (.take 8 (.move 9 (.move 10 (.move 11 (.take 12 (.move 13 (.move 14 (.move 15 (.run 16 [] .done))))))))))))))))) (by kernel_rfl) (by kernel_rfl) (fun _ _ _ _ _ h => nomatch h.1) ?_
              have hS0 : Below (wb).drew.heap.size (wb).drew (wb).drew := Below.refl _ _
              refine os_move rfl rfl rfl (Nat.le_of_ble_eq_true rfl) ?_
              apply Exists.intro
              refine ⟨fun w' K hK => ?_, ?_⟩
              (focus
                go_simp
                exact hK)
              refine os_move rfl rfl rfl (Nat.le_of_ble_eq_true rfl) ?_
              apply Exists.intro
              refine ⟨fun w' K hK => ?_, ?_⟩
              (focus
                go_simp
                exact hK)
              refine os_move rfl rfl rfl (Nat.le_of_ble_eq_true rfl) ?_
              apply Exists.intro
              refine ⟨fun w' K hK => ?_, ?_⟩
              (focus
                go_simp
                exact hK)
              refine os_move rfl rfl rfl (Nat.le_of_ble_eq_true rfl) ?_
              apply Exists.intro
              refine ⟨fun w' K hK => ?_, ?_⟩
              (focus
                go_simp
                exact hK)
              refine os_yld hS0 rfl rfl rfl (Nat.le_of_ble_eq_true rfl) ?_
              apply Exists.intro
              refine ⟨fun w' hS' K hK => ?_, ?_⟩
              (focus
                obtain ⟨hcc, hff⟩ := bcellB (Below.undr hS')
                clear hS'
                go_simp
                exact hK)
              refine os_move rfl rfl rfl (Nat.le_of_ble_eq_true rfl) ?_
              apply Exists.intro
              refine ⟨fun w' K hK => ?_, ?_⟩
              (focus
                go_simp
                exact hK)
              refine os_move rfl rfl rfl (Nat.le_of_ble_eq_true rfl) ?_
              apply Exists.intro
              refine ⟨fun w' K hK => ?_, ?_⟩
              (focus
                go_simp
                exact hK)
              refine os_move rfl rfl rfl (Nat.le_of_ble_eq_true rfl) ?_
              apply Exists.intro
              refine ⟨fun w' K hK => ?_, ?_⟩
              (focus
                go_simp
                exact hK)
              refine os_yld hS0 rfl rfl rfl (Nat.le_of_ble_eq_true rfl) ?_
              apply Exists.intro
              refine ⟨fun w' hS' K hK => ?_, ?_⟩
              (focus
                obtain ⟨hcc, hff⟩ := bcellB (Below.undr hS')
                clear hS'
                go_simp
                exact hK)
              refine os_move rfl rfl rfl (Nat.le_of_ble_eq_true rfl) ?_
              apply Exists.intro
              refine ⟨fun w' K hK => ?_, ?_⟩
              (focus
                go_simp
                exact hK)
              refine os_move rfl rfl rfl (Nat.le_of_ble_eq_true rfl) ?_
              apply Exists.intro
              refine ⟨fun w' K hK => ?_, ?_⟩
              (focus
                go_simp
                exact hK)
              refine os_move rfl rfl rfl (Nat.le_of_ble_eq_true rfl) ?_
              apply Exists.intro
              refine ⟨fun w' K hK => ?_, ?_⟩
              (focus
                go_simp
                exact hK)
              refine os_yld hS0 rfl rfl rfl (Nat.le_of_ble_eq_true rfl) ?_
              apply Exists.intro
              refine ⟨fun w' hS' K hK => ?_, ?_⟩
              (focus
                obtain ⟨hcc, hff⟩ := bcellB (Below.undr hS')
                clear hS'
                go_simp
                exact hK)
              refine os_move rfl rfl rfl (Nat.le_of_ble_eq_true rfl) ?_
              apply Exists.intro
              refine ⟨fun w' K hK => ?_, ?_⟩
              (focus
                go_simp
                exact hK)
              refine os_move rfl rfl rfl (Nat.le_of_ble_eq_true rfl) ?_
              apply Exists.intro
              refine ⟨fun w' K hK => ?_, ?_⟩
              (focus
                go_simp
                exact hK)
              refine os_move rfl rfl rfl (Nat.le_of_ble_eq_true rfl) ?_
              apply Exists.intro
              refine ⟨fun w' K hK => ?_, ?_⟩
              (focus
                go_simp
                exact hK)
              refine os_run rfl rfl (fun K hK => ?_)
              go_wp2_with fail
              refine ⟨fun _ hk => absurd hk List.not_mem_nil, ?_⟩
              refine os_done ⟨rfl, ?_⟩
              go_wp2_with fail
              go_roundw
              case rel =>
                have hnext := HC.out.next hkl.out Hk33.out (by rw [← HV.out, ← HK.out]; have := HKL.out; omega) (st := 0) (by rw [← HV.out, ← HK.out]; simp only [List.headD_cons, List.headD_nil]; have := HKL.out; omega) (by rw [← HV.out, ← HK.out]; exact hKV) (A2 := some ad) (n2 := 0) (c2 := 0) (b := wb.drew) HT.out (Below.refl _ _) (by rw [← HK.out, Hwb.out]; exact ⟨rfl, rfl, rfl, Nat.le_refl _, fun _ _ => rfl⟩) HF.out
                rw [← HK.out] at hnext
                exact ⟨k + 1, some ad, 0, 0, _, _, _, by omega, by omega, by go_num, rfl, hnext⟩
              case measure => simp [intOf]; omega
            · by_cases hxL : x ≤ (L : Int)
              · obtain ⟨s, rfl⟩ : ∃ s : Nat, x = s := ⟨x.toNat, by omega⟩
                have hs0 : (0 : Int) < (s : Int) := by omega
                obtain ⟨KS, hKS⟩ : ∃ KS, KS = K + s := ⟨_, rfl⟩
                have HKS := Lib.hid hKS
                have hKl := HKL.out
                have HKSe : Hid ((K : Int) + (s : Int) = (KS : Int)) := by show _ = _; omega
                have hKVI : (KS : Int) ≤ (V : Int) := by omega
                have hKc : (KS : Int) ≤ (cc : Int) := by omega
                have hK0 : (0 : Int) ≤ (KS : Int) := by omega
                have hKSb : KS ≤ 262144 := by omega
                clear hKS hKl
                go_wp2_with fail
                refine wp_calm ?_
                refine wp_region_os (fun _ w' => Below (wr).drew.heap.size (wr).drew w') [3, 8] (.move 0 (.move 1 (.move 2 (.take 3 (.move 4 (.move 5 (.move 6 (.move 7 (.take 8 (.move 9 (.move 10 .done))))))))))) (by kernel_rfl) (by kernel_rfl) (fun _ _ _ _ _ h => nomatch h.1) ?_
                have hS0 : Below (wr).drew.heap.size (wr).drew (wr).drew := Below.refl _ _
                refine os_move rfl rfl rfl (Nat.le_of_ble_eq_true rfl) ?_
                apply Exists.intro
                refine ⟨fun w' K hK => ?_, ?_⟩
                (focus
                  go_simp
                  exact hK)
                refine os_move rfl rfl rfl (Nat.le_of_ble_eq_true rfl) ?_
                apply Exists.intro
                refine ⟨fun w' K hK => ?_, ?_⟩
                (focus
                  go_simp
                  exact hK)
                refine os_move rfl rfl rfl (Nat.le_of_ble_eq_true rfl) ?_
                apply Exists.intro
                refine ⟨fun w' K hK => ?_, ?_⟩
                (focus
                  go_simp
                  exact hK)
                refine os_yld hS0 rfl rfl rfl (Nat.le_of_ble_eq_true rfl) ?_
                apply Exists.intro
                refine ⟨fun w' hS' K hK => ?_, ?_⟩
                (focus
                  obtain ⟨hcc, hff⟩ := bcellB (Below.undr hS')
                  clear hS'
                  go_simp
                  exact hK)
                refine os_move rfl rfl rfl (Nat.le_of_ble_eq_true rfl) ?_
                apply Exists.intro
                refine ⟨fun w' K hK => ?_, ?_⟩
                (focus
                  go_simp
                  exact hK)
                refine os_move rfl rfl rfl (Nat.le_of_ble_eq_true rfl) ?_
                apply Exists.intro
                refine ⟨fun w' K hK => ?_, ?_⟩
                (focus
                  go_simp
                  exact hK)
                refine os_move rfl rfl rfl (Nat.le_of_ble_eq_true rfl) ?_
                apply Exists.intro
                refine ⟨fun w' K hK => ?_, ?_⟩
                (focus
                  go_simp
                  exact hK)
                refine os_move rfl rfl rfl (Nat.le_of_ble_eq_true rfl) ?_
                apply Exists.intro
                refine ⟨fun w' K hK => ?_, ?_⟩
                (focus
                  go_simp
                  exact hK)
                refine os_yld hS0 rfl rfl rfl (Nat.le_of_ble_eq_true rfl) ?_
                apply Exists.intro
                refine ⟨fun w' hS' K hK => ?_, ?_⟩
                (focus
                  obtain ⟨hcc, hff⟩ := bcellB (Below.undr hS')
                  clear hS'
                  go_simp
                  exact hK)
                refine os_move rfl rfl rfl (Nat.le_of_ble_eq_true rfl) ?_
                apply Exists.intro
                refine ⟨fun w' K hK => ?_, ?_⟩
                (focus
                  go_simp
                  exact hK)
                refine os_move rfl rfl rfl (Nat.le_of_ble_eq_true rfl) ?_
                apply Exists.intro
                refine ⟨fun w' K hK => ?_, ?_⟩
                (focus
                  go_simp
                  exact hK)
                refine os_done ⟨rfl, ?_⟩
                clear hw2
                have hKSe := HKSe.out
                go_wp2_with fail
                obtain ⟨wb, hwb⟩ : ∃ wb, wb = (wr.setCell ⟨g, 1 + k * 2 + 1, none⟩ (.int .i64 ((KS : Nat) : Int))).drew := ⟨_, rfl⟩
                rw [← hwb]
                have hDb : Hid (DiskAt wb g (DD.put { D with fs := pre ++ D.fs.drop k } k ⟨(DD.file { D with fs := pre ++ D.fs.drop k } k).d, KS⟩) vs1) := by
                  rw [hwb]; exact (HC.out.disk.setLast Hk33.out KS).bel (Below.dr1 _)
                have cb1 := hDb.out.cData k Hk33.out
                have cb2 := hDb.out.cLast k Hk33.out
                rw [file_put (by rw [HC.out.disk.len]; exact Hk33.out), if_pos rfl] at cb1 cb2
                simp only [HC.out.file hkl.out] at cb1 cb2
                rw [← HV.out, ← Hcc.out] at cb1
                have hz2 := hDb.out.frozen (1 + k * 2)
                have lgb := hDb.out.gt
                have Hwb := Lib.hid hwb
                clear hcd hcl hz1 hwb hKSe
                refine wp_calm ?_
                refine wp_region_os (fun _ w' => Below (wb).drew.heap.size (wb).drew w') [4, 8, 12] (.move 0 (.move 1 (.move 2 (.move 3 (.take 4 (.move 5 (.move 6 (.move 7 (.take 8 (.move 9 (.move 10 (.move 11 (.take 12 (.move 13 (.move 14 (.move 15 (.run 16 [] .done))))))))))))))))) (by kernel_rfl) (by kernel_rfl) (fun _ _ _ _ _ h => nomatch h.1) ?_
                have hS0 : Below (wb).drew.heap.size (wb).drew (wb).drew := Below.refl _ _
                refine os_move rfl rfl rfl (Nat.le_of_ble_eq_true rfl) ?_
                apply Exists.intro
                refine ⟨fun w' K hK => ?_, ?_⟩
                (focus
                  go_simp
                  exact hK)
                refine os_move rfl rfl rfl (Nat.le_of_ble_eq_true rfl) ?_
                apply Exists.intro
                refine ⟨fun w' K hK => ?_, ?_⟩
                (focus
                  go_simp
                  exact hK)
                refine os_move rfl rfl rfl (Nat.le_of_ble_eq_true rfl) ?_
                apply Exists.intro
                refine ⟨fun w' K hK => ?_, ?_⟩
                (focus
                  go_simp
                  exact hK)
                refine os_move rfl rfl rfl (Nat.le_of_ble_eq_true rfl) ?_
                apply Exists.intro
                refine ⟨fun w' K hK => ?_, ?_⟩
                (focus
                  go_simp
                  exact hK)
                refine os_yld hS0 rfl rfl rfl (Nat.le_of_ble_eq_true rfl) ?_
                apply Exists.intro
                refine ⟨fun w' hS' K hK => ?_, ?_⟩
                (focus
                  obtain ⟨hcc, hff⟩ := bcellB (Below.undr hS')
                  clear hS'
                  go_simp
                  exact hK)
                refine os_move rfl rfl rfl (Nat.le_of_ble_eq_true rfl) ?_
                apply Exists.intro
                refine ⟨fun w' K hK => ?_, ?_⟩
                (focus
                  go_simp
                  exact hK)
                refine os_move rfl rfl rfl (Nat.le_of_ble_eq_true rfl) ?_
                apply Exists.intro
                refine ⟨fun w' K hK => ?_, ?_⟩
                (focus
                  go_simp
                  exact hK)
                refine os_move rfl rfl rfl (Nat.le_of_ble_eq_true rfl) ?_
                apply Exists.intro
                refine ⟨fun w' K hK => ?_, ?_⟩
                (focus
                  go_simp
                  exact hK)
                refine os_yld hS0 rfl rfl rfl (Nat.le_of_ble_eq_true rfl) ?_
                apply Exists.intro
                refine ⟨fun w' hS' K hK => ?_, ?_⟩
                (focus
                  obtain ⟨hcc, hff⟩ := bcellB (Below.undr hS')
                  clear hS'
                  go_simp
                  exact hK)
                refine os_move rfl rfl rfl (Nat.le_of_ble_eq_true rfl) ?_
                apply Exists.intro
                refine ⟨fun w' K hK => ?_, ?_⟩
                (focus
                  go_simp
                  exact hK)
                refine os_move rfl rfl rfl (Nat.le_of_ble_eq_true rfl) ?_
                apply Exists.intro
                refine ⟨fun w' K hK => ?_, ?_⟩
                (focus
                  go_simp
                  exact hK)
                refine os_move rfl rfl rfl (Nat.le_of_ble_eq_true rfl) ?_
                apply Exists.intro
                refine ⟨fun w' K hK => ?_, ?_⟩
                (focus
                  go_simp
                  exact hK)
                refine os_yld hS0 rfl rfl rfl (Nat.le_of_ble_eq_true rfl) ?_
                apply Exists.intro
                refine ⟨fun w' hS' K hK => ?_, ?_⟩
                (focus
                  obtain ⟨hcc, hff⟩ := bcellB (Below.undr hS')
                  clear hS'
                  go_simp
                  exact hK)
                refine os_move rfl rfl rfl (Nat.le_of_ble_eq_true rfl) ?_
                apply Exists.intro
                refine ⟨fun w' K hK => ?_, ?_⟩
                (focus
                  go_simp
                  exact hK)
                refine os_move rfl rfl rfl (Nat.le_of_ble_eq_true rfl) ?_
                apply Exists.intro
                refine ⟨fun w' K hK => ?_, ?_⟩
                (focus
                  go_simp
                  exact hK)
                refine os_move rfl rfl rfl (Nat.le_of_ble_eq_true rfl) ?_
                apply Exists.intro
                refine ⟨fun w' K hK => ?_, ?_⟩
                (focus
                  go_simp
                  exact hK)
                refine os_run rfl rfl (fun K hK => ?_)
                go_wp2_with fail
                refine ⟨fun _ hk => absurd hk List.not_mem_nil, ?_⟩
                refine os_done ⟨rfl, ?_⟩
                go_wp2_with fail
                go_roundw
                case rel =>
                  have hnext := HC.out.next hkl.out Hk33.out (by rw [← HV.out, ← HK.out]; have := HKL.out; omega) (st := s) (by rw [← HV.out, ← HK.out]; simp only [List.headD_cons, List.headD_nil]; have := HKL.out; omega) (by rw [← HV.out, ← HK.out]; exact hKV) (A2 := some ad) (n2 := 0) (c2 := 0) (b := wb.drew) HT.out (Below.refl _ _) (by rw [← HK.out, Hwb.out, ← HKS.out]; exact ⟨rfl, rfl, rfl, Nat.le_refl _, fun _ _ => rfl⟩) HF.out
                  rw [← HK.out, ← HKS.out] at hnext
                  exact ⟨k + 1, some ad, 0, 0, _, _, _, by omega, by omega, by go_num, rfl, hnext⟩
                case measure => simp [intOf]; omega
              · have hLx : (L : Int) < x := by omega
                have hL0I : (0 : Int) < (L : Int) := by omega
                obtain ⟨KS, hKS⟩ : ∃ KS, KS = K + L := ⟨_, rfl⟩
                have HKS := Lib.hid hKS
                have hKl := HKL.out
                have HKSe : Hid ((K : Int) + (L : Int) = (KS : Int)) := by show _ = _; omega
                have hKVI : (KS : Int) ≤ (V : Int) := by omega
                have hKc : (KS : Int) ≤ (cc : Int) := by omega
                have hK0 : (0 : Int) ≤ (KS : Int) := by omega
                have hKSb : KS ≤ 262144 := by omega
                clear hKS hKl
                go_wp2_with fail
                refine wp_calm ?_
                refine wp_region_os (fun _ w' => Below (wr).drew.heap.size (wr).drew w') [3, 8] (.move 0 (.move 1 (.move 2 (.take 3 (.move 4 (.move 5 (.move 6 (.move 7 (.take 8 (.move 9 (.move 10 .done))))))))))) (by kernel_rfl) (by kernel_rfl) (fun _ _ _ _ _ h => nomatch h.1) ?_
                have hS0 : Below (wr).drew.heap.size (wr).drew (wr).drew := Below.refl _ _
                refine os_move rfl rfl rfl (Nat.le_of_ble_eq_true rfl) ?_
                apply Exists.intro
                refine ⟨fun w' K hK => ?_, ?_⟩
                (focus
                  go_simp
                  exact hK)
                refine os_move rfl rfl rfl (Nat.le_of_ble_eq_true rfl) ?_
                apply Exists.intro
                refine ⟨fun w' K hK => ?_, ?_⟩
                (focus
                  go_simp
                  exact hK)
                refine os_move rfl rfl rfl (Nat.le_of_ble_eq_true rfl) ?_
                apply Exists.intro
                refine ⟨fun w' K hK => ?_, ?_⟩
                (focus
                  go_simp
                  exact hK)
                refine os_yld hS0 rfl rfl rfl (Nat.le_of_ble_eq_true rfl) ?_
                apply Exists.intro
                refine ⟨fun w' hS' K hK => ?_, ?_⟩
                (focus
                  obtain ⟨hcc, hff⟩ := bcellB (Below.undr hS')
                  clear hS'
                  go_simp
                  exact hK)
                refine os_move rfl rfl rfl (Nat.le_of_ble_eq_true rfl) ?_
                apply Exists.intro
                refine ⟨fun w' K hK => ?_, ?_⟩
                (focus
                  go_simp
                  exact hK)
                refine os_move rfl rfl rfl (Nat.le_of_ble_eq_true rfl) ?_
                apply Exists.intro
                refine ⟨fun w' K hK => ?_, ?_⟩
                (focus
                  go_simp
                  exact hK)
                refine os_move rfl rfl rfl (Nat.le_of_ble_eq_true rfl) ?_
                apply Exists.intro
                refine ⟨fun w' K hK => ?_, ?_⟩
                (focus
                  go_simp
                  exact hK)
                refine os_move rfl rfl rfl (Nat.le_of_ble_eq_true rfl) ?_
                apply Exists.intro
                refine ⟨fun w' K hK => ?_, ?_⟩
                (focus
                  go_simp
                  exact hK)
                refine os_yld hS0 rfl rfl rfl (Nat.le_of_ble_eq_true rfl) ?_
                apply Exists.intro
                refine ⟨fun w' hS' K hK => ?_, ?_⟩
                (focus
                  obtain ⟨hcc, hff⟩ := bcellB (Below.undr hS')
                  clear hS'
                  go_simp
                  exact hK)
                refine os_move rfl rfl rfl (Nat.le_of_ble_eq_true rfl) ?_
                apply Exists.intro
                refine ⟨fun w' K hK => ?_, ?_⟩
                (focus
                  go_simp
                  exact hK)
                refine os_move rfl rfl rfl (Nat.le_of_ble_eq_true rfl) ?_
                apply Exists.intro
                refine ⟨fun w' K hK => ?_, ?_⟩
                (focus
                  go_simp
                  exact hK)
                refine os_done ⟨rfl, ?_⟩
                clear hw2
                have hKSe := HKSe.out
                go_wp2_with fail
                obtain ⟨wb, hwb⟩ : ∃ wb, wb = (wr.setCell ⟨g, 1 + k * 2 + 1, none⟩ (.int .i64 ((KS : Nat) : Int))).drew := ⟨_, rfl⟩
                rw [← hwb]
                have hDb : Hid (DiskAt wb g (DD.put { D with fs := pre ++ D.fs.drop k } k ⟨(DD.file { D with fs := pre ++ D.fs.drop k } k).d, KS⟩) vs1) := by
                  rw [hwb]; exact (HC.out.disk.setLast Hk33.out KS).bel (Below.dr1 _)
                have cb1 := hDb.out.cData k Hk33.out
                have cb2 := hDb.out.cLast k Hk33.out
                rw [file_put (by rw [HC.out.disk.len]; exact Hk33.out), if_pos rfl] at cb1 cb2
                simp only [HC.out.file hkl.out] at cb1 cb2
                rw [← HV.out, ← Hcc.out] at cb1
                have hz2 := hDb.out.frozen (1 + k * 2)
                have lgb := hDb.out.gt
                have Hwb := Lib.hid hwb
                clear hcd hcl hz1 hwb hKSe
                refine wp_calm ?_
                refine wp_region_os (fun _ w' => Below (wb).drew.heap.size (wb).drew w') [4, 8, 12] (.move 0 (.move 1 (.move 2 (.move 3 (.take 4 (.move 5 (.move 6 (.move 7 (.take 8 (.move 9 (.move 10 (.move 11 (.take 12 (.move 13 (.move 14 (.move 15 (.run 16 [] .done))))))))))))))))) (by kernel_rfl) (by kernel_rfl) (fun _ _ _ _ _ h => nomatch h.1) ?_
                have hS0 : Below (wb).drew.heap.size (wb).drew (wb).drew := Below.refl _ _
                refine os_move rfl rfl rfl (Nat.le_of_ble_eq_true rfl) ?_
                apply Exists.intro
                refine ⟨fun w' K hK => ?_, ?_⟩
                (focus
                  go_simp
                  exact hK)
                refine os_move rfl rfl rfl (Nat.le_of_ble_eq_true rfl) ?_
                apply Exists.intro
                refine ⟨fun w' K hK => ?_, ?_⟩
                (focus
                  go_simp
                  exact hK)
                refine os_move rfl rfl rfl (Nat.le_of_ble_eq_true rfl) ?_
                apply Exists.intro
                refine ⟨fun w' K hK => ?_, ?_⟩
                (focus
                  go_simp
                  exact hK)
                refine os_move rfl rfl rfl (Nat.le_of_ble_eq_true rfl) ?_
                apply Exists.intro
                refine ⟨fun w' K hK => ?_, ?_⟩
                (focus
                  go_simp
                  exact hK)
                refine os_yld hS0 rfl rfl rfl (Nat.le_of_ble_eq_true rfl) ?_
                apply Exists.intro
                refine ⟨fun w' hS' K hK => ?_, ?_⟩
                (focus
                  obtain ⟨hcc, hff⟩ := bcellB (Below.undr hS')
                  clear hS'
                  go_simp
                  exact hK)
                refine os_move rfl rfl rfl (Nat.le_of_ble_eq_true rfl) ?_
                apply Exists.intro
                refine ⟨fun w' K hK => ?_, ?_⟩
                (focus
                  go_simp
                  exact hK)
                refine os_move rfl rfl rfl (Nat.le_of_ble_eq_true rfl) ?_
                apply Exists.intro
                refine ⟨fun w' K hK => ?_, ?_⟩
                (focus
                  go_simp
                  exact hK)
                refine os_move rfl rfl rfl (Nat.le_of_ble_eq_true rfl) ?_
                apply Exists.intro
                refine ⟨fun w' K hK => ?_, ?_⟩
                (focus
                  go_simp
                  exact hK)
                refine os_yld hS0 rfl rfl rfl (Nat.le_of_ble_eq_true rfl) ?_
                apply Exists.intro
                refine ⟨fun w' hS' K hK => ?_, ?_⟩
                (focus
                  obtain ⟨hcc, hff⟩ := bcellB (Below.undr hS')
                  clear hS'
                  go_simp
                  exact hK)
                refine os_move rfl rfl rfl (Nat.le_of_ble_eq_true rfl) ?_
                apply Exists.intro
                refine ⟨fun w' K hK => ?_, ?_⟩
                (focus
                  go_simp
                  exact hK)
                refine os_move rfl rfl rfl (Nat.le_of_ble_eq_true rfl) ?_
                apply Exists.intro
                refine ⟨fun w' K hK => ?_, ?_⟩
                (focus
                  go_simp
                  exact hK)
                refine os_move rfl rfl rfl (Nat.le_of_ble_eq_true rfl) ?_
                apply Exists.intro
                refine ⟨fun w' K hK => ?_, ?_⟩
                (focus
                  go_simp
                  exact hK)
                refine os_yld hS0 rfl rfl rfl (Nat.le_of_ble_eq_true rfl) ?_
                apply Exists.intro
                refine ⟨fun w' hS' K hK => ?_, ?_⟩
                (focus
                  obtain ⟨hcc, hff⟩ := bcellB (Below.undr hS')
                  clear hS'
                  go_simp
                  exact hK)
                refine os_move rfl rfl rfl (Nat.le_of_ble_eq_true rfl) ?_
                apply Exists.intro
                refine ⟨fun w' K hK => ?_, ?_⟩
                (focus
                  go_simp
                  exact hK)
                refine os_move rfl rfl rfl (Nat.le_of_ble_eq_true rfl) ?_
                apply Exists.intro
                refine ⟨fun w' K hK => ?_, ?_⟩
                (focus
                  go_simp
                  exact hK)
                refine os_move rfl rfl rfl (Nat.le_of_ble_eq_true rfl) ?_
                apply Exists.intro
                refine ⟨fun w' K hK => ?_, ?_⟩
                (focus
                  go_simp
                  exact hK)
                refine os_run rfl rfl (fun K hK => ?_)
                go_wp2_with fail
                refine ⟨fun _ hk => absurd hk List.not_mem_nil, ?_⟩
                refine os_done ⟨rfl, ?_⟩
                go_wp2_with fail
                go_roundw
                case rel =>
                  have hnext := HC.out.next hkl.out Hk33.out (by rw [← HV.out, ← HK.out]; have := HKL.out; omega) (st := L) (by rw [← HV.out, ← HK.out]; simp only [List.headD_cons, List.headD_nil]; have := HKL.out; omega) (by rw [← HV.out, ← HK.out]; exact hKV) (A2 := some ad) (n2 := 0) (c2 := 0) (b := wb.drew) HT.out (Below.refl _ _) (by rw [← HK.out, Hwb.out, ← HKS.out]; exact ⟨rfl, rfl, rfl, Nat.le_refl _, fun _ _ => rfl⟩) HF.out
                  rw [← HK.out, ← HKS.out] at hnext
                  exact ⟨k + 1, some ad, 0, 0, _, _, _, by omega, by omega, by go_num, rfl, hnext⟩
                case measure => simp [intOf]; omega
          · have HT0 := True.intro
            have HT : Hid (IntSl wr F (some (ad.add 1)) (n1 - 1) (c1 - 1) (x :: r).tail) := HC.out.isl.tail (A' := some (ad.add 1)) (.inl rfl)
            by_cases hx0 : x ≤ 0
            · have hxL : x ≤ (L : Int) := by omega
              have hKVI : (K : Int) ≤ (V : Int) := by omega
              have hKc : (K : Int) ≤ (cc : Int) := by omega
              have hK0 : (0 : Int) ≤ (K : Int) := by omega
              go_wp2_with fail
              refine wp_calm ?_
              refine wp_region_os (fun _ w' => Below (wr).drew.heap.size (wr).drew w') [3, 8] (.move 0 (.move 1 (.move 2 (.take 3 (.move 4 (.move 5 (.move 6 (.move 7 (.take 8 (.move 9 (.move 10 .done))))))))))) (by kernel_rfl) (by kernel_rfl) (fun _ _ _ _ _ h => nomatch h.1) ?_
              have hS0 : Below (wr).drew.heap.size (wr).drew (wr).drew := Below.refl _ _
              refine os_move rfl rfl rfl (Nat.le_of_ble_eq_true rfl) ?_
              apply Exists.intro
              refine ⟨fun w' K hK => ?_, ?_⟩
              (focus
                go_simp
                exact hK)
              refine os_move rfl rfl rfl (Nat.le_of_ble_eq_true rfl) ?_
              apply Exists.intro
              refine ⟨fun w' K hK => ?_, ?_⟩
              (focus
                go_simp
                exact hK)
              refine os_move rfl rfl rfl (Nat.le_of_ble_eq_true rfl) ?_
              apply Exists.intro
              refine ⟨fun w' K hK => ?_, ?_⟩
              (focus
                go_simp
                exact hK)
              refine os_yld hS0 rfl rfl rfl (Nat.le_of_ble_eq_true rfl) ?_
              apply Exists.intro
              refine ⟨fun w' hS' K hK => ?_, ?_⟩
              (focus
                obtain ⟨hcc, hff⟩ := bcellB (Below.undr hS')
                clear hS'
                go_simp
                exact hK)
              refine os_move rfl rfl rfl (Nat.le_of_ble_eq_true rfl) ?_
              apply Exists.intro
              refine ⟨fun w' K hK => ?_, ?_⟩
              (focus
                go_simp
                exact hK)
              refine os_move rfl rfl rfl (Nat.le_of_ble_eq_true rfl) ?_
              apply Exists.intro
              refine ⟨fun w' K hK => ?_, ?_⟩
              (focus
                go_simp
                exact hK)
              refine os_move rfl rfl rfl (Nat.le_of_ble_eq_true rfl) ?_
              apply Exists.intro
              refine ⟨fun w' K hK => ?_, ?_⟩
              (focus
                go_simp
                exact hK)
              refine os_move rfl rfl rfl (Nat.le_of_ble_eq_true rfl) ?_
              apply Exists.intro
              refine ⟨fun w' K hK => ?_, ?_⟩
              (focus
                go_simp
                exact hK)
              refine os_yld hS0 rfl rfl rfl (Nat.le_of_ble_eq_true rfl) ?_
              apply Exists.intro
              refine ⟨fun w' hS' K hK => ?_, ?_⟩
              (focus
                obtain ⟨hcc, hff⟩ := bcellB (Below.undr hS')
                clear hS'
                go_simp
                exact hK)
              refine os_move rfl rfl rfl (Nat.le_of_ble_eq_true rfl) ?_
              apply Exists.intro
              refine ⟨fun w' K hK => ?_, ?_⟩
              (focus
                go_simp
                exact hK)
              refine os_move rfl rfl rfl (Nat.le_of_ble_eq_true rfl) ?_
              apply Exists.intro
              refine ⟨fun w' K hK => ?_, ?_⟩
              (focus
                go_simp
                exact hK)
              refine os_done ⟨rfl, ?_⟩
              clear hw2

              go_wp2_with fail
              obtain ⟨wb, hwb⟩ : ∃ wb, wb = (wr.setCell ⟨g, 1 + k * 2 + 1, none⟩ (.int .i64 ((K : Nat) : Int))).drew := ⟨_, rfl⟩
              rw [← hwb]
              have hDb : Hid (DiskAt wb g (DD.put { D with fs := pre ++ D.fs.drop k } k ⟨(DD.file { D with fs := pre ++ D.fs.drop k } k).d, K⟩) vs1) := by
                rw [hwb]; exact (HC.out.disk.setLast Hk33.out K).bel (Below.dr1 _)
              have cb1 := hDb.out.cData k Hk33.out
              have cb2 := hDb.out.cLast k Hk33.out
              rw [file_put (by rw [HC.out.disk.len]; exact Hk33.out), if_pos rfl] at cb1 cb2
              simp only [HC.out.file hkl.out] at cb1 cb2
              rw [← HV.out, ← Hcc.out] at cb1
              have hz2 := hDb.out.frozen (1 + k * 2)
              have lgb := hDb.out.gt
              have Hwb := Lib.hid hwb
              clear hcd hcl hz1 hwb 
              refine wp_calm ?_
              refine wp_region_os (fun _ w' => Below (wb).drew.heap.size (wb).drew w') [4, 8, 12] (.move 0 (.move 1 (.move 2 (.move 3 (.take 4 (.move 5 (.move 6 (.move 7 (.take 8 (.move 9 (.move 10 (.move 11 (.take 12 (.move 13 (.move 14 (.move 15 (.run 16 [] .done))))))))))))))))) (by kernel_rfl) (by kernel_rfl) (fun _ _ _ _ _ h => nomatch h.1) ?_
              have hS0 : Below (wb).drew.heap.size (wb).drew (wb).drew := Below.refl _ _
              refine os_move rfl rfl rfl (Nat.le_of_ble_eq_true rfl) ?_
              apply Exists.intro
              refine ⟨fun w' K hK => ?_, ?_⟩
              (focus
                go_simp
                exact hK)
              refine os_move rfl rfl rfl (Nat.le_of_ble_eq_true rfl) ?_
              apply Exists.intro
              refine ⟨fun w' K hK => ?_, ?_⟩
              (focus
                go_simp
                exact hK)
              refine os_move rfl rfl rfl (Nat.le_of_ble_eq_true rfl) ?_
              apply Exists.intro
              refine ⟨fun w' K hK => ?_, ?_⟩
              (focus
                go_simp
                exact hK)
              refine os_move rfl rfl rfl (Nat.le_of_ble_eq_true rfl) ?_
              apply Exists.intro
              refine ⟨fun w' K hK => ?_, ?_⟩
              (focus
                go_simp
                exact hK)
              refine os_yld hS0 rfl rfl rfl (Nat.le_of_ble_eq_true rfl) ?_
              apply Exists.intro
              refine ⟨fun w' hS' K hK => ?_, ?_⟩
              (focus
                obtain ⟨hcc, hff⟩ := bcellB (Below.undr hS')
                clear hS'
                go_simp
                exact hK)
              refine os_move rfl rfl rfl (Nat.le_of_ble_eq_true rfl) ?_
              apply Exists.intro
              refine ⟨fun w' K hK => ?_, ?_⟩
              (focus
                go_simp
                exact hK)
              refine os_move rfl rfl rfl (Nat.le_of_ble_eq_true rfl) ?_
              apply Exists.intro
              refine ⟨fun w' K hK => ?_, ?_⟩
              (focus
                go_simp
                exact hK)
              refine os_move rfl rfl rfl (Nat.le_of_ble_eq_true rfl) ?_
              apply Exists.intro
              refine ⟨fun w' K hK => ?_, ?_⟩
              (focus
                go_simp
                exact hK)
              refine os_yld hS0 rfl rfl rfl (Nat.le_of_ble_eq_true rfl) ?_
              apply Exists.intro
              refine ⟨fun w' hS' K hK => ?_, ?_⟩
              (focus
                obtain ⟨hcc, hff⟩ := bcellB (Below.undr hS')
                clear hS'
                go_simp
                exact hK)
              refine os_move rfl rfl rfl (Nat.le_of_ble_eq_true rfl) ?_
              apply Exists.intro
              refine ⟨fun w' K hK => ?_, ?_⟩
              (focus
                go_simp
                exact hK)
              refine os_move rfl rfl rfl (Nat.le_of_ble_eq_true rfl) ?_
              apply Exists.intro
              refine ⟨fun w' K hK => ?_, ?_⟩
              (focus
                go_simp
                exact hK)
              refine os_move rfl rfl rfl (Nat.le_of_ble_eq_true rfl) ?_
              apply Exists.intro
              refine ⟨fun w' K hK => ?_, ?_⟩
              (focus
                go_simp
                exact hK)
              refine os_yld hS0 rfl rfl rfl (Nat.le_of_ble_eq_true rfl) ?_
              apply Exists.intro
              refine ⟨fun w' hS' K hK => ?_, ?_⟩
              (focus
                obtain ⟨hcc, hff⟩ := bcellB (Below.undr hS')
                clear hS'
                go_simp
                exact hK)
              refine os_move rfl rfl rfl (Nat.le_of_ble_eq_true rfl) ?_
              apply Exists.intro
              refine ⟨fun w' K hK => ?_, ?_⟩
              (focus
                go_simp
                exact hK)
              refine os_move rfl rfl rfl (Nat.le_of_ble_eq_true rfl) ?_
              apply Exists.intro
              refine ⟨fun w' K hK => ?_, ?_⟩
              (focus
                go_simp
                exact hK)
              refine os_move rfl rfl rfl (Nat.le_of_ble_eq_true rfl) ?_
              apply Exists.intro
              refine ⟨fun w' K hK => ?_, ?_⟩
              (focus
                go_simp
                exact hK)
              refine os_run rfl rfl (fun K hK => ?_)
              go_wp2_with fail
              refine ⟨fun _ hk => absurd hk List.not_mem_nil, ?_⟩
              refine os_done ⟨rfl, ?_⟩
              go_wp2_with fail
              go_roundw
              case rel =>
                have hnext := HC.out.next hkl.out Hk33.out (by rw [← HV.out, ← HK.out]; have := HKL.out; omega) (st := 0) (by rw [← HV.out, ← HK.out]; simp only [List.headD_cons, List.headD_nil]; have := HKL.out; omega) (by rw [← HV.out, ← HK.out]; exact hKV) (A2 := some (ad.add 1)) (n2 := n1 - 1) (c2 := c1 - 1) (b := wb.drew) HT.out (Below.refl _ _) (by rw [← HK.out, Hwb.out]; exact ⟨rfl, rfl, rfl, Nat.le_refl _, fun _ _ => rfl⟩) HF.out
                rw [← HK.out] at hnext
                exact ⟨k + 1, some (ad.add 1), n1 - 1, c1 - 1, _, _, _, by omega, by omega, by go_num, rfl, hnext⟩
              case measure => simp [intOf]; omega
            · by_cases hxL : x ≤ (L : Int)
              · obtain ⟨s, rfl⟩ : ∃ s : Nat, x = s := ⟨x.toNat, by omega⟩
                have hs0 : (0 : Int) < (s : Int) := by omega
                obtain ⟨KS, hKS⟩ : ∃ KS, KS = K + s := ⟨_, rfl⟩
                have HKS := Lib.hid hKS
                have hKl := HKL.out
                have HKSe : Hid ((K : Int) + (s : Int) = (KS : Int)) := by show _ = _; omega
                have hKVI : (KS : Int) ≤ (V : Int) := by omega
                have hKc : (KS : Int) ≤ (cc : Int) := by omega
                have hK0 : (0 : Int) ≤ (KS : Int) := by omega
                have hKSb : KS ≤ 262144 := by omega
                clear hKS hKl
                go_wp2_with fail
                refine wp_calm ?_
                refine wp_region_os (fun _ w' => Below (wr).drew.heap.size (wr).drew w') [3, 8] (.move 0 (.move 1 (.move 2 (.take 3 (.move 4 (.move 5 (.move 6 (.move 7 (.take 8 (.move 9 (.move 10 .done))))))))))) (by kernel_rfl) (by kernel_rfl) (fun _ _ _ _ _ h => nomatch h.1) ?_
                have hS0 : Below (wr).drew.heap.size (wr).drew (wr).drew := Below.refl _ _
                refine os_move rfl rfl rfl (Nat.le_of_ble_eq_true rfl) ?_
                apply Exists.intro
                refine ⟨fun w' K hK => ?_, ?_⟩
                (focus
                  go_simp
                  exact hK)
                refine os_move rfl rfl rfl (Nat.le_of_ble_eq_true rfl) ?_
                apply Exists.intro
                refine ⟨fun w' K hK => ?_, ?_⟩
                (focus
                  go_simp
                  exact hK)
                refine os_move rfl rfl rfl (Nat.le_of_ble_eq_true rfl) ?_
                apply Exists.intro
                refine ⟨fun w' K hK => ?_, ?_⟩
                (focus
                  go_simp
                  exact hK)
                refine os_yld hS0 rfl rfl rfl (Nat.le_of_ble_eq_true rfl) ?_
                apply Exists.intro
                refine ⟨fun w' hS' K hK => ?_, ?_⟩
                (focus
                  obtain ⟨hcc, hff⟩ := bcellB (Below.undr hS')
                  clear hS'
                  go_simp
                  exact hK)
                refine os_move rfl rfl rfl (Nat.le_of_ble_eq_true rfl) ?_
                apply Exists.intro
                refine ⟨fun w' K hK => ?_, ?_⟩
                (focus
                  go_simp
                  exact hK)
                refine os_move rfl rfl rfl (Nat.le_of_ble_eq_true rfl) ?_
                apply Exists.intro
                refine ⟨fun w' K hK => ?_, ?_⟩
                (focus
                  go_simp
                  exact hK)
                refine os_move rfl rfl rfl (Nat.le_of_ble_eq_true rfl) ?_
                apply Exists.intro
                refine ⟨fun w' K hK => ?_, ?_⟩
                (focus
                  go_simp
                  exact hK)
                refine os_move rfl rfl rfl (Nat.le_of_ble_eq_true rfl) ?_
                apply Exists.intro
                refine ⟨fun w' K hK => ?_, ?_⟩
                (focus
                  go_simp
                  exact hK)
                refine os_yld hS0 rfl rfl rfl (Nat.le_of_ble_eq_true rfl) ?_
                apply Exists.intro
                refine ⟨fun w' hS' K hK => ?_, ?_⟩
                (focus
                  obtain ⟨hcc, hff⟩ := bcellB (Below.undr hS')
                  clear hS'
                  go_simp
                  exact hK)
                refine os_move rfl rfl rfl (Nat.le_of_ble_eq_true rfl) ?_
                apply Exists.intro
                refine ⟨fun w' K hK => ?_, ?_⟩
                (focus
                  go_simp
                  exact hK)
                refine os_move rfl rfl rfl (Nat.le_of_ble_eq_true rfl) ?_
                apply Exists.intro
                refine ⟨fun w' K hK => ?_, ?_⟩
                (focus
                  go_simp
                  exact hK)
                refine os_done ⟨rfl, ?_⟩
                clear hw2
                have hKSe := HKSe.out
                go_wp2_with fail
                obtain ⟨wb, hwb⟩ : ∃ wb, wb = (wr.setCell ⟨g, 1 + k * 2 + 1, none⟩ (.int .i64 ((KS : Nat) : Int))).drew := ⟨_, rfl⟩
                rw [← hwb]
                have hDb : Hid (DiskAt wb g (DD.put { D with fs := pre ++ D.fs.drop k } k ⟨(DD.file { D with fs := pre ++ D.fs.drop k } k).d, KS⟩) vs1) := by
                  rw [hwb]; exact (HC.out.disk.setLast Hk33.out KS).bel (Below.dr1 _)
                have cb1 := hDb.out.cData k Hk33.out
                have cb2 := hDb.out.cLast k Hk33.out
                rw [file_put (by rw [HC.out.disk.len]; exact Hk33.out), if_pos rfl] at cb1 cb2
                simp only [HC.out.file hkl.out] at cb1 cb2
                rw [← HV.out, ← Hcc.out] at cb1
                have hz2 := hDb.out.frozen (1 + k * 2)
                have lgb := hDb.out.gt
                have Hwb := Lib.hid hwb
                clear hcd hcl hz1 hwb hKSe
                refine wp_calm ?_
                refine wp_region_os (fun _ w' => Below (wb).drew.heap.size (wb).drew w') [4, 8, 12] (.move 0 (.move 1 (.move 2 (.move 3 (.take 4 (.move 5 (.move 6 (.move 7 (.take 8 (.move 9 (.move 10 (.move 11 (.take 12 (.move 13 (.move 14 (.move 15 (.run 16 [] .done))))))))))))))))) (by kernel_rfl) (by kernel_rfl) (fun _ _ _ _ _ h => nomatch h.1) ?_
                have hS0 : Below (wb).drew.heap.size (wb).drew (wb).drew := Below.refl _ _
                refine os_move rfl rfl rfl (Nat.le_of_ble_eq_true rfl) ?_
                apply Exists.intro
                refine ⟨fun w' K hK => ?_, ?_⟩
                (focus
                  go_simp
                  exact hK)
                refine os_move rfl rfl rfl (Nat.le_of_ble_eq_true rfl) ?_
                apply Exists.intro
                refine ⟨fun w' K hK => ?_, ?_⟩
                (focus
                  go_simp
                  exact hK)
                refine os_move rfl rfl rfl (Nat.le_of_ble_eq_true rfl) ?_
                apply Exists.intro
                refine ⟨fun w' K hK => ?_, ?_⟩
                (focus
                  go_simp
                  exact hK)
                refine os_move rfl rfl rfl (Nat.le_of_ble_eq_true rfl) ?_
                apply Exists.intro
                refine ⟨fun w' K hK => ?_, ?_⟩
                (focus
                  go_simp
                  exact hK)
                refine os_yld hS0 rfl rfl rfl (Nat.le_of_ble_eq_true rfl) ?_
                apply Exists.intro
                refine ⟨fun w' hS' K hK => ?_, ?_⟩
                (focus
                  obtain ⟨hcc, hff⟩ := bcellB (Below.undr hS')
                  clear hS'
                  go_simp
                  exact hK)
                refine os_move rfl rfl rfl (Nat.le_of_ble_eq_true rfl) ?_
                apply Exists.intro
                refine ⟨fun w' K hK => ?_, ?_⟩
                (focus
                  go_simp
                  exact hK)
                refine os_move rfl rfl rfl (Nat.le_of_ble_eq_true rfl) ?_
                apply Exists.intro
                refine ⟨fun w' K hK => ?_, ?_⟩
                (focus
                  go_simp
                  exact hK)
                refine os_move rfl rfl rfl (Nat.le_of_ble_eq_true rfl) ?_
                apply Exists.intro
                refine ⟨fun w' K hK => ?_, ?_⟩
                (focus
                  go_simp
                  exact hK)
                refine os_yld hS0 rfl rfl rfl (Nat.le_of_ble_eq_true rfl) ?_
                apply Exists.intro
                refine ⟨fun w' hS' K hK => ?_, ?_⟩
                (focus
                  obtain ⟨hcc, hff⟩ := bcellB (Below.undr hS')
                  clear hS'
                  go_simp
                  exact hK)
                refine os_move rfl rfl rfl (Nat.le_of_ble_eq_true rfl) ?_
                apply Exists.intro
                refine ⟨fun w' K hK => ?_, ?_⟩
                (focus
                  go_simp
                  exact hK)
                refine os_move rfl rfl rfl (Nat.le_of_ble_eq_true rfl) ?_
                apply Exists.intro
                refine ⟨fun w' K hK => ?_, ?_⟩
                (focus
                  go_simp
                  exact hK)
                refine os_move rfl rfl rfl (Nat.le_of_ble_eq_true rfl) ?_
                apply Exists.intro
                refine ⟨fun w' K hK => ?_, ?_⟩
                (focus
                  go_simp
                  exact hK)
                refine os_yld hS0 rfl rfl rfl (Nat.le_of_ble_eq_true rfl) ?_
                apply Exists.intro
                refine ⟨fun w' hS' K hK => ?_, ?_⟩
                (focus
                  obtain ⟨hcc, hff⟩ := bcellB (Below.undr hS')
                  clear hS'
                  go_simp
                  exact hK)
                refine os_move rfl rfl rfl (Nat.le_of_ble_eq_true rfl) ?_
                apply Exists.intro
                refine ⟨fun w' K hK => ?_, ?_⟩
                (focus
                  go_simp
                  exact hK)
                refine os_move rfl rfl rfl (Nat.le_of_ble_eq_true rfl) ?_
                apply Exists.intro
                refine ⟨fun w' K hK => ?_, ?_⟩
                (focus
                  go_simp
                  exact hK)
                refine os_move rfl rfl rfl (Nat.le_of_ble_eq_true rfl) ?_
                apply Exists.intro
                refine ⟨fun w' K hK => ?_, ?_⟩
                (focus
                  go_simp
                  exact hK)
                refine os_run rfl rfl (fun K hK => ?_)
                go_wp2_with fail
                refine ⟨fun _ hk => absurd hk List.not_mem_nil, ?_⟩
                refine os_done ⟨rfl, ?_⟩
                go_wp2_with fail
                go_roundw
                case rel =>
                  have hnext := HC.out.next hkl.out Hk33.out (by rw [← HV.out, ← HK.out]; have := HKL.out; omega) (st := s) (by rw [← HV.out, ← HK.out]; simp only [List.headD_cons, List.headD_nil]; have := HKL.out; omega) (by rw [← HV.out, ← HK.out]; exact hKV) (A2 := some (ad.add 1)) (n2 := n1 - 1) (c2 := c1 - 1) (b := wb.drew) HT.out (Below.refl _ _) (by rw [← HK.out, Hwb.out, ← HKS.out]; exact ⟨rfl, rfl, rfl, Nat.le_refl _, fun _ _ => rfl⟩) HF.out
                  rw [← HK.out, ← HKS.out] at hnext
                  exact ⟨k + 1, some (ad.add 1), n1 - 1, c1 - 1, _, _, _, by omega, by omega, by go_num, rfl, hnext⟩
                case measure => simp [intOf]; omega
              · have hLx : (L : Int) < x := by omega
                have hL0I : (0 : Int) < (L : Int) := by omega
                obtain ⟨KS, hKS⟩ : ∃ KS, KS = K + L := ⟨_, rfl⟩
                have HKS := Lib.hid hKS
                have hKl := HKL.out
                have HKSe : Hid ((K : Int) + (L : Int) = (KS : Int)) := by show _ = _; omega
                have hKVI : (KS : Int) ≤ (V : Int) := by omega
                have hKc : (KS : Int) ≤ (cc : Int) := by omega
                have hK0 : (0 : Int) ≤ (KS : Int) := by omega
                have hKSb : KS ≤ 262144 := by omega
                clear hKS hKl
                go_wp2_with fail
                refine wp_calm ?_
                refine wp_region_os (fun _ w' => Below (wr).drew.heap.size (wr).drew w') [3, 8] (.move 0 (.move 1 (.move 2 (.take 3 (.move 4 (.move 5 (.move 6 (.move 7 (.take 8 (.move 9 (.move 10 .done))))))))))) (by kernel_rfl) (by kernel_rfl) (fun _ _ _ _ _ h => nomatch h.1) ?_
                have hS0 : Below (wr).drew.heap.size (wr).drew (wr).drew := Below.refl _ _
                refine os_move rfl rfl rfl (Nat.le_of_ble_eq_true rfl) ?_
                apply Exists.intro
                refine ⟨fun w' K hK => ?_, ?_⟩
                (focus
                  go_simp
                  exact hK)
                refine os_move rfl rfl rfl (Nat.le_of_ble_eq_true rfl) ?_
                apply Exists.intro
                refine ⟨fun w' K hK => ?_, ?_⟩
                (focus
                  go_simp
                  exact hK)
                refine os_move rfl rfl rfl (Nat.le_of_ble_eq_true rfl) ?_
                apply Exists.intro
                refine ⟨fun w' K hK => ?_, ?_⟩
                (focus
                  go_simp
                  exact hK)
                refine os_yld hS0 rfl rfl rfl (Nat.le_of_ble_eq_true rfl) ?_
                apply Exists.intro
                refine ⟨fun w' hS' K hK => ?_, ?_⟩
                (focus
                  obtain ⟨hcc, hff⟩ := bcellB (Below.undr hS')
                  clear hS'
                  go_simp
                  exact hK)
                refine os_move rfl rfl rfl (Nat.le_of_ble_eq_true rfl) ?_
                apply Exists.intro
                refine ⟨fun w' K hK => ?_, ?_⟩
                (focus
                  go_simp
                  exact hK)
                refine os_move rfl rfl rfl (Nat.le_of_ble_eq_true rfl) ?_
                apply Exists.intro
                refine ⟨fun w' K hK => ?_, ?_⟩
                (focus
                  go_simp
                  exact hK)
                refine os_move rfl rfl rfl (Nat.le_of_ble_eq_true rfl) ?_
                apply Exists.intro
                refine ⟨fun w' K hK => ?_, ?_⟩
                (focus
                  go_simp
                  exact hK)
                refine os_move rfl rfl rfl (Nat.le_of_ble_eq_true rfl) ?_
                apply Exists.intro
                refine ⟨fun w' K hK => ?_, ?_⟩
                (focus
                  go_simp
                  exact hK)
                refine os_yld hS0 rfl rfl rfl (Nat.le_of_ble_eq_true rfl) ?_
                apply Exists.intro
                refine ⟨fun w' hS' K hK => ?_, ?_⟩
                (focus
                  obtain ⟨hcc, hff⟩ := bcellB (Below.undr hS')
                  clear hS'
                  go_simp
                  exact hK)
                refine os_move rfl rfl rfl (Nat.le_of_ble_eq_true rfl) ?_
                apply Exists.intro
                refine ⟨fun w' K hK => ?_, ?_⟩
                (focus
                  go_simp
                  exact hK)
                refine os_move rfl rfl rfl (Nat.le_of_ble_eq_true rfl) ?_
                apply Exists.intro
                refine ⟨fun w' K hK => ?_, ?_⟩
                (focus
                  go_simp
                  exact hK)
                refine os_done ⟨rfl, ?_⟩
                clear hw2
                have hKSe := HKSe.out
                go_wp2_with fail
                obtain ⟨wb, hwb⟩ : ∃ wb, wb = (wr.setCell ⟨g, 1 + k * 2 + 1, none⟩ (.int .i64 ((KS : Nat) : Int))).drew := ⟨_, rfl⟩
                rw [← hwb]
                have hDb : Hid (DiskAt wb g (DD.put { D with fs := pre ++ D.fs.drop k } k ⟨(DD.file { D with fs := pre ++ D.fs.drop k } k).d, KS⟩) vs1) := by
                  rw [hwb]; exact (HC.out.disk.setLast Hk33.out KS).bel (Below.dr1 _)
                have cb1 := hDb.out.cData k Hk33.out
                have cb2 := hDb.out.cLast k Hk33.out
                rw [file_put (by rw [HC.out.disk.len]; exact Hk33.out), if_pos rfl] at cb1 cb2
                simp only [HC.out.file hkl.out] at cb1 cb2
                rw [← HV.out, ← Hcc.out] at cb1
                have hz2 := hDb.out.frozen (1 + k * 2)
                have lgb := hDb.out.gt
                have Hwb := Lib.hid hwb
                clear hcd hcl hz1 hwb hKSe
                refine wp_calm ?_
                refine wp_region_os (fun _ w' => Below (wb).drew.heap.size (wb).drew w') [4, 8, 12] (.move 0 (.move 1 (.move 2 (.move 3 (.take 4 (.move 5 (.move 6 (.move 7 (.take 8 (.move 9 (.move 10 (.move 11 (.take 12 (.move 13 (.move 14 (.move 15 (.run 16 [] .done))))))))))))))))) (by kernel_rfl) (by kernel_rfl) (fun _ _ _ _ _ h => nomatch h.1) ?_
                have hS0 : Below (wb).drew.heap.size (wb).drew (wb).drew := Below.refl _ _
                refine os_move rfl rfl rfl (Nat.le_of_ble_eq_true rfl) ?_
                apply Exists.intro
                refine ⟨fun w' K hK => ?_, ?_⟩
                (focus
                  go_simp
                  exact hK)
                refine os_move rfl rfl rfl (Nat.le_of_ble_eq_true rfl) ?_
                apply Exists.intro
                refine ⟨fun w' K hK => ?_, ?_⟩
                (focus
                  go_simp
                  exact hK)
                refine os_move rfl rfl rfl (Nat.le_of_ble_eq_true rfl) ?_
                apply Exists.intro
                refine ⟨fun w' K hK => ?_, ?_⟩
                (focus
                  go_simp
                  exact hK)
                refine os_move rfl rfl rfl (Nat.le_of_ble_eq_true rfl) ?_
                apply Exists.intro
                refine ⟨fun w' K hK => ?_, ?_⟩
                (focus
                  go_simp
                  exact hK)
                refine os_yld hS0 rfl rfl rfl (Nat.le_of_ble_eq_true rfl) ?_
                apply Exists.intro
                refine ⟨fun w' hS' K hK => ?_, ?_⟩
                (focus
                  obtain ⟨hcc, hff⟩ := bcellB (Below.undr hS')
                  clear hS'
                  go_simp
                  exact hK)
                refine os_move rfl rfl rfl (Nat.le_of_ble_eq_true rfl) ?_
                apply Exists.intro
                refine ⟨fun w' K hK => ?_, ?_⟩
                (focus
                  go_simp
                  exact hK)
                refine os_move rfl rfl rfl (Nat.le_of_ble_eq_true rfl) ?_
                apply Exists.intro
                refine ⟨fun w' K hK => ?_, ?_⟩
                (focus
                  go_simp
                  exact hK)
                refine os_move rfl rfl rfl (Nat.le_of_ble_eq_true rfl) ?_
                apply Exists.intro
                refine ⟨fun w' K hK => ?_, ?_⟩
                (focus
                  go_simp
                  exact hK)
                refine os_yld hS0 rfl rfl rfl (Nat.le_of_ble_eq_true rfl) ?_
                apply Exists.intro
                refine ⟨fun w' hS' K hK => ?_, ?_⟩
                (focus
                  obtain ⟨hcc, hff⟩ := bcellB (Below.undr hS')
                  clear hS'
                  go_simp
                  exact hK)
                refine os_move rfl rfl rfl (Nat.le_of_ble_eq_true rfl) ?_
                apply Exists.intro
                refine ⟨fun w' K hK => ?_, ?_⟩
                (focus
                  go_simp
                  exact hK)
                refine os_move rfl rfl rfl (Nat.le_of_ble_eq_true rfl) ?_
                apply Exists.intro
                refine ⟨fun w' K hK => ?_, ?_⟩
                (focus
                  go_simp
                  exact hK)
                refine os_move rfl rfl rfl (Nat.le_of_ble_eq_true rfl) ?_
                apply Exists.intro
                refine ⟨fun w' K hK => ?_, ?_⟩
                (focus
                  go_simp
                  exact hK)
                refine os_yld hS0 rfl rfl rfl (Nat.le_of_ble_eq_true rfl) ?_
                apply Exists.intro
                refine ⟨fun w' hS' K hK => ?_, ?_⟩
                (focus
                  obtain ⟨hcc, hff⟩ := bcellB (Below.undr hS')
                  clear hS'
                  go_simp
                  exact hK)
                refine os_move rfl rfl rfl (Nat.le_of_ble_eq_true rfl) ?_
                apply Exists.intro
                refine ⟨fun w' K hK => ?_, ?_⟩
                (focus
                  go_simp
                  exact hK)
                refine os_move rfl rfl rfl (Nat.le_of_ble_eq_true rfl) ?_
                apply Exists.intro
                refine ⟨fun w' K hK => ?_, ?_⟩
                (focus
                  go_simp
                  exact hK)
                refine os_move rfl rfl rfl (Nat.le_of_ble_eq_true rfl) ?_
                apply Exists.intro
                refine ⟨fun w' K hK => ?_, ?_⟩
                (focus
                  go_simp
                  exact hK)
                refine os_run rfl rfl (fun K hK => ?_)
                go_wp2_with fail
                refine ⟨fun _ hk => absurd hk List.not_mem_nil, ?_⟩
                refine os_done ⟨rfl, ?_⟩
                go_wp2_with fail
                go_roundw
                case rel =>
                  have hnext := HC.out.next hkl.out Hk33.out (by rw [← HV.out, ← HK.out]; have := HKL.out; omega) (st := L) (by rw [← HV.out, ← HK.out]; simp only [List.headD_cons, List.headD_nil]; have := HKL.out; omega) (by rw [← HV.out, ← HK.out]; exact hKV) (A2 := some (ad.add 1)) (n2 := n1 - 1) (c2 := c1 - 1) (b := wb.drew) HT.out (Below.refl _ _) (by rw [← HK.out, Hwb.out, ← HKS.out]; exact ⟨rfl, rfl, rfl, Nat.le_refl _, fun _ _ => rfl⟩) HF.out
                  rw [← HK.out, ← HKS.out] at hnext
                  exact ⟨k + 1, some (ad.add 1), n1 - 1, c1 - 1, _, _, _, by omega, by omega, by go_num, rfl, hnext⟩
                case measure => simp [intOf]; omega
    · have hk33 : k = 33 := by omega
      subst hk33
      have e1 : D.fs.drop 33 = [] := List.drop_of_length_le (by rw [hlen.out]; exact Nat.le_refl _)
      have hE := HC.out.eq
      have hDk := HC.out.disk
      rw [e1] at hE hDk
      rw [crashL, List.append_nil] at hE
      rw [List.append_nil, ← hE] at hDk
      have co := hDk.cOff
      have cl := hDk.cLeft
      have zo := hDk.frozen 67
      have D1 := Lib.hid (hDk.setOff false)
      have cl2 := D1.out.cLeft
      have zo2 := D1.out.frozen 68
      clear hE
      have HFF := Lib.hid (And.intro HC.out.fr HC.out.foot)
      clear HC hDk cl
      go_wp2_with fail
      go_end0
      exact ⟨rfl, vs1, D1.out.setLeft (-1), HFF.out.1.tr ((Fr.of_set wr g _ _ (.inl rfl)).tr (Fr.of_set _ g _ _ (.inl rfl))), HFF.out.2⟩
end Go.Proofs.Ytjfnpndpigpaiaa
