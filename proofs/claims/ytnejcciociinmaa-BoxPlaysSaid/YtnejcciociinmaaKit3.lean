/- Writing lists over, what is owned staying owned. -/
import Derived.Test.YtnejcciociinmaaMem
import Derived.OneCell
import Derived.RangeFuncBox
namespace Go.Proofs.Ytnejcciociinmaa
open Go.RowKit

/-- append of bytes, guarded -/
theorem append_bytes_g {w : World} {ops : Array Oper} {rest : List Oper} {o : Oper} {a : Act} {Q : Exit → Act → World → Prop} (s x : Operand)
    (ho : o.op = .call { callee := .builtin .append, args := #[s, x], argTypes := #[22, 22] })
    (base : Nat) (A : Option Addr) (n c : Nat) (l : List UInt8) (hs : a.eval s = .slice A n c) (hown : w.ownsRow base 5 1 (.slice A n c) n (bs l))
    (A2 : Option Addr) (m c2 : Nat) (l2 : List UInt8) (hx : a.eval x = .slice A2 m c2) (hl : l2.length = m) (hr : Rd w A2 (bs l2))
    (hb : n + m ≤ 140737488355328) (hbase : base ≤ w.heap.size) (hw : Region.wanted o (yielded ops a.tmps) = true)
    (h : ∀ A' c' w', w'.ownsRow base 5 1 (.slice A' (n + m) c') (n + m) (bs (l ++ l2)) → w.grownBy w' (Value.slice A n c).ownBlock →
      ((Value.slice A' (n + m) c').ownBlock = (Value.slice A n c).ownBlock ∨ (Value.slice A' (n + m) c').ownBlock = some w.heap.size) → wpList Try.prog ops Q rest (a.put o.dst (.slice A' (n + m) c')) w') : wpList Try.prog ops Q (o :: rest) a w :=
  BigFrame.wpList_want hw fun _ hK => wp_append_bytes s x ho base A n c l hs hown A2 m c2 l2 hx hl hr hb hbase fun A' c' w' h1 h2 h3 => hK _ _ (h A' c' w' h1 h2 h3)
/-- whatever is owned is owned still, whatever it holds -/
def KeepOwn (w w' : World) : Prop := ∀ base e size v n, (∃ xs, w.ownsRow base e size v n xs) → ∃ ys, w'.ownsRow base e size v n ys
theorem KeepOwn.refl (w : World) : KeepOwn w w := fun _ _ _ _ _ h => h
theorem KeepOwn.trans {a b c : World} (h : KeepOwn a b) (k : KeepOwn b c) : KeepOwn a c := fun _ _ _ _ _ x => k _ _ _ _ _ (h _ _ _ _ _ x)
theorem KeepOwn.setCell (w : World) (g o : Nat) (u : Value) : KeepOwn w (w.setCell ⟨g, o, none⟩ u) := by
  rintro base e size v n ⟨xs, h⟩
  by_cases hv : v.ownBlock = some g
  · rcases h.2 with ⟨rfl, _⟩ | ⟨g', cap, cur, rfl, _⟩
    · cases hv
    · obtain rfl : g' = g := by simpa [Value.ownBlock] using hv
      exact ⟨_, (h.stored o u).1⟩
  · exact ⟨xs, ownsRow_setCell_other h hv u⟩
theorem KeepOwn.below {w w' : World} (h : Below w.heap.size w w') : KeepOwn w w' := by
  rintro base e size v n ⟨xs, hx⟩
  refine ⟨xs, hx.1, ?_⟩
  rcases hx.2 with hn | ⟨g, cap, cur, rfl, hb, hgg, rest⟩
  · exact .inl hn
  · exact .inr ⟨g, cap, cur, rfl, hb, by rw [h.block g (Array.getElem?_eq_some_iff.1 hgg).1]; exact hgg, rest⟩
theorem KeepOwn.drewN {w w' : World} (h : KeepOwn w w') (n : Nat) : KeepOwn w (w'.drewN n) := h

set_option maxHeartbeats 400000 in
theorem SpoilBytes_keep (base : Nat) (A : Option Addr) (n c m : Nat) (xs : List Value) (w : World) (h : w.ownsRow base 5 1 (.slice A m c) m xs) (hm : n ≤ m) (hl : m ≤ 140737488355328) :
    Calls Try.prog 11 #[.slice A n c] w fun e w' => e = .returned (.tuple #[]) ∧ w.grownBy w' (Value.ownBlock (.slice A m c)) ∧ KeepOwn w w' := by
  have H := Lib.hid h; clear h
  go_enter Try.func11, Try.ntmps11
  go_wp2
  go_loopw [2] (fun i wr => ∃ k : Nat, k ≤ n ∧ i = .int .i64 (k : Nat) ∧ Hid (∃ ys, wr.ownsRow base 5 1 (.slice A m c) m ys) ∧ Hid (w.grownBy wr (Value.ownBlock (.slice A m c))) ∧ Hid (KeepOwn w wr)) (fun i _ => n - (intOf i).toNat)
  case atStart => exact ⟨0, by omega, rfl, ⟨_, H.out⟩, World.grownBy.refl _ _, KeepOwn.refl _⟩
  case round =>
    obtain ⟨k, hk, rfl, Hex, Hg, Hko⟩ := hrel
    obtain ⟨ys, hown⟩ := Hex.out
    by_cases hlt : k < n
    · obtain ⟨g, cap, hv, _, _⟩ := hown.form (by omega)
      injection hv with hA1 _ hc1
      subst hA1 hc1
      have hkI : (0 : Int) ≤ (k : Int) := by omega
      have hknI : (k : Int) < (n : Int) := by omega
      have hyl : k < ys.length := by have := hown.1; omega
      have hcell : wr.cell? ⟨g, k, none⟩ = some ys[k] := by rw [hown.cellAt k (by omega)]; exact List.getElem?_eq_getElem hyl
      have hfz := hown.frozenAt k
      go_wp2_with (go_at_call 24; refine (mark_any _ _ (by omega) (by omega)).mono ?_; rintro e w' ⟨rfl, rfl⟩)
      obtain ⟨s1, s2⟩ := hown.stored k (.int .u8 ((201 + 7 * ((k : Int) + 7)) % 256))
      go_roundw
      case rel => exact ⟨k + 1, by omega, by go_num, ⟨_, s1⟩, grown_trans_same Hg.out s2, Hko.out.trans (KeepOwn.setCell _ _ _ _)⟩
      case measure => simp [intOf]; omega
    · go_wp2
      go_end0
      exact ⟨rfl, Hg.out, Hko.out⟩
end Go.Proofs.Ytnejcciociinmaa
