/- The walk of impl.sha, part 5: SHA-256 over arrays, a range over slices.Chunk (by hand, over the print of impl.num and impl.be). Nothing here is trusted: it is checked. -/
import Derived.Test.YtohlocmdpdghiaaDoorZHfS1
import Derived.RangeFuncNested
import Derived.RangeFuncBound
import Derived.RangeFuncCalls
import Derived.RangeFuncLeaves
import Derived.RangeFuncFrom
import Derived.Shelf.Abstract
import Derived.Shelf.RegionOpen
import Derived.WalkKit
import Derived.OwnWalkIn
import Derived.TacticsInMore
import Derived.LoopNIn
import Derived.LoopIn
import Derived.Sort.QuietIn
namespace Go.Proofs.YtohlocmdpdghiaaDoor.Sha
open Go.RowKit Go.Proofs.YtohlocmdpdghiaaDoor.PHn Go.Shelf Go.Proofs.YtohlocmdpdghiaaDoorW.PrintWords
set_option linter.unusedVariables false
set_option linter.unusedSimpArgs false
attribute [local go_sem] Oper.semAt_some
def Kp (n₀ g : Nat) (A B : World) : Prop := A.heap.size ≤ B.heap.size ∧ ∀ k, k < n₀ → k ≠ g → B.heap[k]? = A.heap[k]?
theorem Kp.cell {n₀ g : Nat} {A B : World} (h : Kp n₀ g A B) {j : Nat} {v : Value} (hj : j < n₀) (hg : j ≠ g) (hc : A.cell? ⟨j, 0, none⟩ = some v) : B.cell? ⟨j, 0, none⟩ = some v := by
  have := h.2 j hj hg
  simpa [World.cell?, this] using hc
set_option maxRecDepth 100000 in
set_option maxHeartbeats 4000000 in
theorem chunk1_in (n : Nat) (hn : 1 ≤ n) (l Bs Bn n₀ g b c m : Nat) (hcm : 64 * m ≤ c) (hm : m ≤ 1000000000) (h1 : Bs < n₀) (h2 : Bn < n₀) (h3 : Bs ≠ g) (h4 : Bn ≠ g) (J Jx : List (Fin m) → World → Prop) (B₀ : Nat)
    (hJ : AbidesFrom B₀ J)
    (hY : ∀ pre x W, J pre W → pre.length < m → YieldAt Fence.wide (n - 1) Tryd.prog l #[.slice (some ⟨b, 64 * x.1, none⟩) 64 64] W fun e W' =>
      (e = .returned (.bool true) ∧ J (pre ++ [x]) W' ∧ Kp n₀ g W W') ∨ (e = .returned (.bool false) ∧ Jx (pre ++ [x]) W'))
    (W : World) (hcs : W.cell? ⟨Bs, 0, none⟩ = some (.slice (some ⟨b, 0, none⟩) (64 * m) c)) (hcn : W.cell? ⟨Bn, 0, none⟩ = some (.int .i64 64)) (h0 : J [] W) :
    CallsIn Fence.wide n Tryd.prog 46 #[.func (.yield l) #[] #[], .pointer (some ⟨Bs, 0, none⟩), .pointer (some ⟨Bn, 0, none⟩)] W fun e W' => (∃ v, e = .returned v) ∧
      ((∃ ys : List (Fin m), ys.map (·.1) = List.range m ∧ J ys W') ∨ (∃ pre, True ∧ Jx pre W')) := by
  refine callsIn_of_wp Tryd.func46 rfl trivial ?_ rfl
  simp only [Tryd.ntmps46, List.size_toArray, List.length_cons, List.length_nil, Nat.reduceAdd, Nat.reduceSub, Array.replicate_succ, Array.replicate_zero, List.push_toArray, List.append_toArray, List.nil_append, List.cons_append]
  have HCS := Aside0.mk hcs
  have HCN := Aside0.mk hcn
  clear hcs hcn
  gi_wp2
  gi_loopw [4] (fun i wr => ∃ k : Nat, k ≤ m ∧ i = .int .i64 ((64 * k : Nat) : Int) ∧ wr.cell? ⟨Bs, 0, none⟩ = some (.slice (some ⟨b, 0, none⟩) (64 * m) c) ∧ wr.cell? ⟨Bn, 0, none⟩ = some (.int .i64 64) ∧ ∃ p : List (Fin m), p.map (·.1) = List.range k ∧ J p wr)
    (fun i _ => 64 * m - (intOf i).toNat)
  case atStart => exact ⟨0, Nat.zero_le _, rfl, HCS.out, HCN.out, [], rfl, h0⟩
  case round =>
    obtain ⟨k, hk, rfl, hcs, hcn, p, hp, hJs⟩ := hrel
    have HP := Aside0.mk hp
    clear hp
    have pl : p.length = k := by have := congrArg List.length HP.out; simpa using this
    by_cases hlt : k < m
    · obtain ⟨o, ho⟩ : ∃ o, o = 64 * k := ⟨_, rfl⟩
      obtain ⟨N, hN⟩ : ∃ N, N = 64 * m := ⟨_, rfl⟩
      rw [← ho]
      rw [← hN] at hcs
      have hoN : o + 64 ≤ N := by omega
      have w1 : IntKind.i64.wrap ((o : Int) + 64) = (o : Int) + 64 := IntWalk.i64_in _ (by omega)
      have HJS := Aside0.mk hJs
      have HO := Aside0.mk ho
      have HN := Aside0.mk hN
      clear hJs ho hN
      have hoc : (o : Int) + 64 ≤ (c : Int) := by have := HN.out; omega
      have hoc' : o + 64 ≤ c := by have := HN.out; omega
      have hne : (c = o) = False := eq_false (by omega)
      have hne' : (o = c) = False := eq_false (by omega)
      have hlo : (o < N) = True := eq_true (by omega)
      gi_wp2
      gi_quiet (fail)
      have hJd : J p (wr.drewN nq) := hJ _ _ _ none HJS.out ⟨rfl, rfl, rfl, Nat.le_refl _, fun _ _ _ => rfl⟩ (fun r e => by cases e)
      have hYk := hY p ⟨k, hlt⟩ (wr.drewN nq) hJd (by rw [pl]; exact hlt)
      dsimp only at hYk
      rw [← HO.out] at hYk
      obtain ⟨fn, tmps, assign, body, hy, hR⟩ := hYk
      have hcs' : (wr.drewN nq).cell? ⟨Bs, 0, none⟩ = some (.slice (some ⟨b, 0, none⟩) N c) := hcs
      gi_wp2
      refine hR.mono ?_
      rintro e W3 (⟨rfl, hJ3, hk3⟩ | ⟨rfl, hJx3⟩)
      · have hcs3 : W3.cell? ⟨Bs, 0, none⟩ = some (.slice (some ⟨b, 0, none⟩) N c) := hk3.cell h1 h3 hcs'
        have hcn3 : W3.cell? ⟨Bn, 0, none⟩ = some (.int .i64 64) := hk3.cell h2 h4 (show (wr.drewN nq).cell? ⟨Bn, 0, none⟩ = some (.int .i64 64) from hcn)
        clear hcs hcn hcs'
        gi_wp2
        go_roundw
        case rel => exact ⟨k + 1, by omega, by rw [HO.out]; push_cast; simp; omega, by rw [← HN.out]; exact hcs3, hcn3, p ++ [⟨k, hlt⟩], by rw [List.map_append, HP.out, List.range_succ]; rfl, hJ3⟩
        case measure => rw [HO.out]; simp [intOf]; have := HO.out; omega
      · gi_wp2
        refine bodyPost_ret (results_none rfl _ _ _) rfl ?_
        exact ⟨⟨_, rfl⟩, .inr ⟨_, trivial, hJx3⟩⟩
    · obtain rfl : k = m := by omega
      gi_wp2
      go_end0
      exact ⟨⟨_, rfl⟩, .inl ⟨_, HP.out, hJs⟩⟩
set_option maxHeartbeats 1000000 in
theorem chunk_in (n : Nat) (a : Option Addr) (len cap : Nat) (w : World) :
    CallsIn Fence.wide n Tryd.prog 40 #[.slice a len cap, .int .i64 64] w fun e w' => e = .returned (.func (.func 46) #[] #[.pointer (some ⟨w.heap.size, 0, none⟩), .pointer (some ⟨w.heap.size + 1, 0, none⟩)]) ∧ w' = (w.alloc (.cells #[.slice a len cap] 22)).alloc (.cells #[.int .i64 64] 3) := by
  refine callsIn_of_wp Tryd.func40 rfl trivial ?_ rfl
  simp only [Tryd.ntmps40, List.size_toArray, List.length_cons, List.length_nil, Nat.reduceAdd, Nat.reduceSub, Array.replicate_succ, Array.replicate_zero, List.push_toArray, List.append_toArray, List.nil_append, List.cons_append]
  gi_wp2
  go_ret
  exact ⟨rfl, rfl⟩
theorem chunk_stops (n : Nat) (hn : 1 ≤ n) (Bs Bn n₀ g b c m : Nat) (hcm : 64 * m ≤ c) (hm : m ≤ 1000000000) (h1 : Bs < n₀) (h2 : Bn < n₀) (h3 : Bs ≠ g) (h4 : Bn ≠ g) (w : World) (hn₀ : n₀ ≤ w.heap.size)
    (hcs : w.cell? ⟨Bs, 0, none⟩ = some (.slice (some ⟨b, 0, none⟩) (64 * m) c)) (hcn : w.cell? ⟨Bn, 0, none⟩ = some (.int .i64 64)) :
    SeqStopsK Fence.wide n Tryd.prog 46 #[.pointer (some ⟨Bs, 0, none⟩), .pointer (some ⟨Bn, 0, none⟩)] (fun x : Fin m => #[.slice (some ⟨b, 64 * x.1, none⟩) 64 64]) (Kp n₀ g) (fun ys => ys.map (·.1) = List.range m) (fun _ => True) m w := fun l J Jx W hW hJ _ hY h0 =>
  chunk1_in n hn l Bs Bn n₀ g b c m hcm hm h1 h2 h3 h4 J Jx _ hJ hY W ((hW.cell (p := ⟨Bs, 0, none⟩) (by show Bs < _; omega)).trans hcs) ((hW.cell (p := ⟨Bn, 0, none⟩) (by show Bn < _; omega)).trans hcn) h0
end Go.Proofs.YtohlocmdpdghiaaDoor.Sha
