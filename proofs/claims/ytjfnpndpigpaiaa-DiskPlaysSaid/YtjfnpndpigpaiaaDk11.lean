/- The disk: Read. -/
import Derived.Test.YtjfnpndpigpaiaaDk10
namespace Go.Proofs.Ytjfnpndpigpaiaa
open Go.RowKit
attribute [local go_sem] yld yldUpon_value

set_option maxHeartbeats 400000 in
theorem Read_any {w : World} {g : Nat} {D : DD} {vs : Vs} (h : DiskAt w g D vs) (ok : DOK D) (f : Int) :
    Calls Try.prog 13 #[.pointer (some ⟨g, 0, none⟩), .int .i64 f] w fun e w' => ∃ A' n' c', e = .returned (.slice A' n' c') ∧ w'.ownsRow w.heap.size 5 1 (.slice A' n' c') n' (bs (readD D f)) ∧ Below w.heap.size w w' := by
  have H := Lib.hid h; have OK := Lib.hid ok
  unfold readD
  by_cases hok : okF f = true
  · obtain ⟨k, rfl⟩ : ∃ k : Nat, f = k := ⟨f.toNat, by have := okF_iff.1 hok; omega⟩
    have hn33 : k < 33 := by have := okF_iff.1 hok; omega
    rw [if_pos hok, Int.toNat_natCast]
    have Hn := Lib.hid hn33
    have hc := h.cData k hn33
    have HS := Lib.hid (h.file k hn33).sl
    have HL := Lib.hid (h.file k hn33).lt
    have HK := Lib.hid (ok.file_le k)
    obtain ⟨V, hV⟩ : ∃ V, V = (D.file k).d := ⟨_, rfl⟩
    rw [← hV] at hc HS HK ⊢
    clear h ok hn33 hok hV
    go_enter Try.func13, Try.ntmps13
    go_wp2_with fail
    refine (file_yes _ g k Hn.out).mono ?_
    rintro e w1 ⟨rfl, rfl⟩
    go_wp2_with fail
    refine (Clone_sl HS.out (fun k hk => by obtain ⟨ad, e, hb⟩ := hk; have := HL.out ad e; omega) (by have := HK.out; omega)).mono ?_
    rintro e w1 ⟨A', c', rfl, hown, hb⟩
    have HO := Lib.hid hown; have HB := Lib.hid hb
    clear hown hb
    go_wp2_with fail
    go_ret
    exact ⟨A', _, c', rfl, HO.out, HB.out⟩
  · have hok' : okF f = false := by simpa using hok
    rw [if_neg hok]
    have Hok := Lib.hid hok'
    clear h ok hok hok'
    go_enter Try.func13, Try.ntmps13
    go_wp2_with fail
    refine (file_no _ g f Hok.out).mono ?_
    rintro e w1 ⟨rfl, rfl⟩
    go_wp2_with fail
    go_ret
    exact ⟨none, 0, 0, rfl, World.ownsRow_nil _ _ _ _, Below.refl _ _⟩
end Go.Proofs.Ytjfnpndpigpaiaa
