import Derived.Test.YtpgcdengljfojaaG6
set_option linter.unusedVariables false
set_option linter.unusedSimpArgs false
namespace Go.Proofs.Ytpgcdengljfojaa
open Go.Den
theorem SpanMeets.envOk : EnvOk Try.prog SpanMeets_E := env_ok (l := [(14, s14), (15, s15), (16, s16), (17, s17)]) th_ok any_ok ⟨⟨s14_ok, s14_det⟩, ⟨s15_ok, s15_det⟩, ⟨s16_ok, s16_det⟩, ⟨s17_ok, s17_det⟩, trivial⟩ _
theorem SpanMeets.calls (a b c d : Int) (W : World) : Calls Try.prog 4 #[.agg #[.int .i64 a, .int .i64 b], .agg #[.int .i64 c, .int .i64 d]] W fun e W' => e = .returned (.bool true) ∧ W.grownBy W' none := by
  refine law_calls SpanMeets.envOk Try.func4 rfl 5 [.agg [.d (.int .i64) a, .d (.int .i64) b], .agg [.d (.int .i64) c, .d (.int .i64) d]] _ W ?_ ?_
  · exact ⟨⟨[.int .i64 a, .int .i64 b], rfl, ⟨rfl, rfl, trivial⟩, by simp [Value.oneCell']⟩, ⟨[.int .i64 c, .int .i64 d], rfl, ⟨rfl, rfl, trivial⟩, by simp [Value.oneCell']⟩, trivial⟩
  · rw [denF_any SpanMeets.envOk.D ((SpanMeets.eq 5 a b c d).trans (SpanMeets.pure a b c d)) (out := [.d .bool true]) (os := []) (fun rs ros hk => by
      unfold SpanMeets.k at hk
      split at hk
      · cases hk; exact ⟨rfl, rfl⟩
      · cases hk)]
    rfl
end Go.Proofs.Ytpgcdengljfojaa
