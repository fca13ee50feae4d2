/- For every input the law BackoffTells returns true: the next delay, what is taken off it, when it is due, are the reference's. No conditions. -/
import Derived.Test.YtgilnhagddihcaaPBackoffTellsx1
import Derived.OpenShut
namespace Go.Proofs.Ytgilnhagddihcaa.Pure
open Go.RowKit Go.Proofs.Ytgilnhagddihcaa.PBackoffTells Go.Proofs.YtgilnhagddihcaaW.PrintWords Go.Proofs.YtgilnhagddihcaaW.PrintLast

theorem within_some (v n : Int) (hn : 1 ≤ n) : ∃ r, hostlerkeep_Within.f v n = some r := by
  unfold hostlerkeep_Within.f
  rw [if_neg (by omega), if_neg (by omega)]
  split <;> exact ⟨_, rfl⟩

theorem mx_comm' (a b : Int) : mx a b = mx b a := by unfold mx; split <;> split <;> omega

theorem tick_range (a l : Int) (h : l ≤ 1048576) : ∃ r, backoff_within.f a l = some r ∧ l ≤ r ∧ r ≤ 1048576 := by
  refine ⟨_, rfl, ?_, ?_⟩ <;> unfold mn mx <;> split <;> split <;> omega

theorem jit_some (d x : Int) : ∃ r, backoff_Jitter.f d x = some r ∧ hostlerref09_Jitter.f d x = some r := by
  obtain ⟨t, ht, h0, h1⟩ := tick_range d 1 (by omega)
  have ht' : hostlerref09_ticks.f d 1 = some t := ht
  unfold backoff_Jitter.f hostlerref09_Jitter.f
  rw [ht, ht']
  simp only [Option.bind_some]
  have hd : t.tdiv 2 = t / 2 := Int.tdiv_eq_ediv_of_nonneg (by omega)
  have e : wrap64 (1 + wrap64 (t.tdiv 2)) = 1 + t / 2 := by rw [hd]; unfold wrap64; omega
  rw [e, if_neg (by omega), if_neg (by omega), mx_comm']
  exact ⟨_, rfl, rfl⟩

theorem due_some (n d x : Int) : ∃ r, backoff_Due.f n d x = some r ∧ hostlerref09_Due.f n d x = some r := by
  obtain ⟨t, ht, _⟩ := tick_range n 0 (by omega)
  have ht' : hostlerref09_ticks.f n 0 = some t := ht
  obtain ⟨u, hu, _⟩ := tick_range d 1 (by omega)
  have hu' : hostlerref09_ticks.f d 1 = some u := hu
  obtain ⟨j, hj, hj'⟩ := jit_some d x
  unfold backoff_Due.f hostlerref09_Due.f
  rw [ht, ht', hu, hu', hj, hj']
  simp only [Option.bind_some, mx_comm' 1]
  exact ⟨_, rfl, rfl⟩

theorem next_some (d m : Int) : ∃ r, backoff_Next.f d m = some r ∧ hostlerref09_Next.f d m = some r := ⟨_, rfl, rfl⟩

theorem wakes_true : hostlerlaw10_wakes.f = some true := by decide +kernel

theorem j0_true (k : Nat) (n d m x : Int) : hostlerlaw10_BackoffTells.j0 (k + 1) n d m x = some true := by
  obtain ⟨a, ha, ha'⟩ := next_some d m
  obtain ⟨b, hb, hb'⟩ := jit_some d x
  obtain ⟨c, hc, hc'⟩ := due_some n d x
  simp only [hostlerlaw10_BackoffTells.j0]
  rw [ha, ha', hb, hb', hc, hc', wakes_true]
  simp

theorem BackoffTells : hostlerlaw10_BackoffTells.Pure := by
  intro a b c d e _ _ _ _ _
  refine ⟨1, ?_⟩
  unfold hostlerlaw10_BackoffTells.f
  obtain ⟨x, hx⟩ := within_some a 500 (by omega)
  obtain ⟨y, hy⟩ := within_some b 70 (by omega)
  obtain ⟨z, hz⟩ := within_some c 70 (by omega)
  rw [hx, hy, hz]
  simp only [Option.bind_some, j0_true 0]
  split <;> rfl

end Go.Proofs.Ytgilnhagddihcaa.Pure
