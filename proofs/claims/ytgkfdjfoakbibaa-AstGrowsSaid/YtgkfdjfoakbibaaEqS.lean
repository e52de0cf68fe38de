/- Equality of sets, as the walk meets it. -/
import Derived.Test.YtgkfdjfoakbibaaProg
import Derived.WalkKit
import Derived.WalkSpells
import Derived.WalkLawsBesides
import Derived.Handy
import Derived.Lib.Hide
import Derived.ChangeKeysEq
import Derived.Test.YtgkfdjfoakbibaaSetP
import Derived.Test.YtgkfdjfoakbibaaMem
namespace Go.Proofs.Ytgkfdjfoakbibaa
open Go.RowKit SetP

theorem run_eq4 (w : World) (a b c d a' b' c' d' : Int) :
    (Op.equalIn 10000 46 (.agg #[.int .u64 a, .int .u64 b, .int .u64 c, .int .u64 d]) (.agg #[.int .u64 a', .int .u64 b', .int .u64 c', .int .u64 d'])).run Try.prog w =
      .ok (a == a' && (b == b' && (c == c' && d == d'))) w := by
  obtain ⟨i0, hi, _⟩ := info_parts (show (Try.prog.info? 44).map (fun i => (i.zero, i.size, i.bytes)) = some (some (.int .u64 0), 1, 8) by kernel_rfl)
  have hC : Try.prog.cellsOf 44 = 1 := by kernel_rfl
  rw [show (10000 : Nat) = 9999 + 1 from rfl, run_equalIn_array w 9999 _ _ Try.underlying46 hi, hC]
  have hq : ∀ x y, (Op.equalIn 9999 44 (.int .u64 x) (.int .u64 y)).run Try.prog w = .ok (x == y) w := fun x y => run_equalIn_int w 9998 _ _ .u64 x y Try.underlying44
  simp only [Op.eqItems, List.range, List.range.loop, part, isAgg, Sem.run_bind, run_underlying Try.underlying44, Result.andThen_ok]
  simp [hq]
  by_cases e1 : a = a' <;> by_cases e2 : b = b' <;> by_cases e3 : c = c' <;> by_cases e4 : d = d' <;> simp [e1, e2, e3, e4]

theorem run_eq_set (w : World) (f g : Nat → Bool) : (Op.equalIn 10000 46 (setV f) (setV g)).run Try.prog w = .ok (same f g) w := by
  rw [run_eq4, same_words]
theorem run_eq_set0 (w : World) (f : Nat → Bool) : (Op.equalIn 10000 46 (setV f) (.agg #[.int .u64 0, .int .u64 0, .int .u64 0, .int .u64 0])).run Try.prog w = .ok (same f (fun _ => false)) w := by
  have h := run_eq_set w f (fun _ => false)
  unfold setV at h ⊢
  rw [wd_zero, wd_zero, wd_zero, wd_zero] at h
  exact h
end Go.Proofs.Ytgkfdjfoakbibaa
