/- bytes.Equal. -/
import Derived.Test.YtnejcciociinmaaMem
namespace Go.Proofs.Ytnejcciociinmaa
open Go.RowKit
theorem Equal_sl {F G : Nat → Prop} {A A' : Option Addr} {n n' c c' : Nat} {l l' : List UInt8} {w : World} (h : Sl w F A n c l) (h' : Sl w G A' n' c' l') :
    Calls Try.prog 29 #[.slice A n c, .slice A' n' c'] w fun e w' => e = .returned (.bool (l == l')) ∧ w = w' := by
  have k1 := run_string_of (P := Try.prog) w F 22 9 5 A n c l h Try.underlying22 Try.underlying5 Try.underlying9
  have k2 := run_string_of (P := Try.prog) w G 22 9 5 A' n' c' l' h' Try.underlying22 Try.underlying5 Try.underlying9
  clear h h'
  go_enter Try.func29, Try.ntmps29
  go_wp2
  go_ret
  exact ⟨rfl, rfl⟩

theorem Equal_at {F G : Nat → Prop} {A A' : Option Addr} {n n' c c' : Nat} {l l' : List UInt8} {w : World} (h : Sl w F A n c l) (h' : Sl w G A' n' c' l') (r : Bool) (hr : (l == l') = r) :
    Calls Try.prog 29 #[.slice A n c, .slice A' n' c'] w fun e w' => e = .returned (.bool r) ∧ w = w' := by
  subst hr; exact Equal_sl h h'
end Go.Proofs.Ytnejcciociinmaa
