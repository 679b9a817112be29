/- The disk: Sync and Write. -/
import Derived.Test.YtjfnpndpigpaiaaDk6
namespace Go.Proofs.Ytjfnpndpigpaiaa
open Go.RowKit
attribute [local go_sem] yld yldUpon_value

theorem file_of_fs {D D1 : DD} (h : D1.fs = D.fs) (f : Nat) : D1.file f = D.file f := by unfold DD.file; rw [h]
theorem Dstep.old {g : Nat} {vs : Vs} {a b c : World} {D2 : DD} (hb : Below a.heap.size a b) (h2 : Dstep g vs b c D2) : Dstep g vs a c D2 := Dstep.tr (Fr.of_below hb) (fun _ h => .inl h) h2
theorem not_foot {w : World} {g : Nat} {D : DD} {vs : Vs} (h : DiskAt w g D vs) {k : Nat} (hk : w.heap.size ≤ k) : ¬ dfoot g vs k := fun x => by have := h.foot_lt x; omega
theorem eg_sync : ∀ args w, (callFunc 32 args).run Try.prog w = .ok (.enter 32 args) w := enters_of Try.func32 (by kernel_rfl) rfl
theorem eg_write : ∀ args w, (callFunc 34 args).run Try.prog w = .ok (.enter 34 args) w := enters_of Try.func34 (by kernel_rfl) rfl
theorem eg_cut : ∀ args w, (callFunc 36 args).run Try.prog w = .ok (.enter 36 args) w := enters_of Try.func36 (by kernel_rfl) rfl
theorem eg_over : ∀ args w, (callFunc 35 args).run Try.prog w = .ok (.enter 35 args) w := enters_of Try.func35 (by kernel_rfl) rfl
theorem hmf_ (fn : Fn) (first cap : Array Value) (w : World) : (Instr.makeFunc fn first cap).run Try.prog w = .ok (.func fn first cap) w := rfl
set_option maxRecDepth 100000 in
set_option maxHeartbeats 1000000 in
theorem Sync_any {w : World} {g : Nat} {D : DD} {vs : Vs} (h : DiskAt w g D vs) (ok : DOK D) (hdn : D.done ≤ 1000000000) (f : Int) :
    Calls Try.prog 12 #[.pointer (some ⟨g, 0, none⟩), .int .i64 f] w fun e w' => e = .returned (.int .i64 (syncD D f).1) ∧ Dstep g vs w w' (syncD D f).2 := by
  have H := Lib.hid h; have OK := Lib.hid ok; have HN := Lib.hid hdn
  have hmf := hmf_
  by_cases hok : okF f = true
  · obtain ⟨n, rfl⟩ : ∃ n : Nat, f = n := ⟨f.toNat, by have := okF_iff.1 hok; omega⟩
    have hn33 : n < 33 := by have := okF_iff.1 hok; omega
    have Hn := Lib.hid hn33; have Hok := Lib.hid hok
    clear h ok hdn hn33 hok
    go_enter Try.func12, Try.ntmps12
    go_wp2_with fail
    refine (file_yes w g n Hn.out).mono ?_
    rintro e w1 ⟨rfl, rfl⟩
    go_wp2_with fail
    refine (bad_any _ true).mono ?_
    rintro e w1 ⟨rfl, rfl⟩
    go_wp2_with fail
    have Da := Lib.hid (H.out.bel (Below.al w (.cells #[.pointer (some ⟨g, 1 + n * 2, none⟩)] 65)))
    have ca : Hid ((w.alloc (.cells #[.pointer (some ⟨g, 1 + n * 2, none⟩)] 65)).cell? ⟨w.heap.size, 0, none⟩ = some (.pointer (some ⟨g, 1 + n * 2, none⟩))) := by
      show _ = _
      rw [cell_of_row _ w.heap.size 0 _ _ _ (heap_alloc_new w _)]; rfl
    have hne : w.heap.size ≠ g := by have := H.out.gt; omega
    have hr := operate_any Da.out OK.out HN.out (badE (okF n)) false 32 #[.pointer (some ⟨w.heap.size, 0, none⟩)] (D.syncF n).fs eg_sync (fun _ w1 D1 hfs hD1 hf1 => by
      have hx := cell_fr ca.out hf1 hne
      refine (Sync1_any hD1 Hn.out hx).mono fun e w' ⟨a, b⟩ => ⟨a, ?_⟩
      have e2 : D1.put n ⟨(D1.file n).d, (D1.file n).d.length⟩ = { D1 with fs := (D.syncF n).fs } := by
        rw [file_of_fs hfs]; simp [DD.put, DD.syncF, hfs]
      rw [e2] at b; exact b)
    rw [show badE (okF n) = badE true by rw [Hok.out]] at hr
    refine hr.mono ?_
    rintro e w2 ⟨rfl, hst⟩
    have HS := Lib.hid hst
    clear hst hr
    go_wp2_with fail
    go_ret
    unfold syncD
    rw [Hok.out]
    exact ⟨rfl, Dstep.old (Below.al _ _) HS.out⟩
  · have hok' : okF f = false := by simpa using hok
    have Hok := Lib.hid hok'
    clear h ok hdn hok hok'
    go_enter Try.func12, Try.ntmps12
    go_wp2_with fail
    refine (file_no w g f Hok.out).mono ?_
    rintro e w1 ⟨rfl, rfl⟩
    go_wp2_with fail
    refine (bad_any _ false).mono ?_
    rintro e w1 ⟨rfl, rfl⟩
    go_wp2_with fail
    have Da := Lib.hid (H.out.bel (Below.al w (.cells #[.pointer none] 65)))
    have hr := operate_any Da.out OK.out HN.out (badE false) false 32 #[.pointer (some ⟨w.heap.size, 0, none⟩)] (D.syncF f).fs eg_sync (fun e => absurd e (by decide))
    refine hr.mono ?_
    rintro e w2 ⟨rfl, hst⟩
    have HS := Lib.hid hst
    clear hst hr
    go_wp2_with fail
    go_ret
    unfold syncD
    rw [Hok.out]
    exact ⟨rfl, Dstep.old (Below.al _ _) HS.out⟩
end Go.Proofs.Ytjfnpndpigpaiaa
