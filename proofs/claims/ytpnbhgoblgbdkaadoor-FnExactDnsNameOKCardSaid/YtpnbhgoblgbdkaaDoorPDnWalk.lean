import Derived.Test.YtpnbhgoblgbdkaaDoorPDnx2
import Derived.Test.YtpnbhgoblgbdkaaDoorShelf
import Derived.Lib.SliceRun
import Derived.Deep.LoopGhost
import Derived.Lib.SplitLaws
set_option linter.unusedVariables false
set_option linter.unusedSimpArgs false
namespace Go.Proofs.YtpnbhgoblgbdkaaDoor.PDn
open Go.RowKit Go.Proofs.YtpnbhgoblgbdkaaDoorW.PrintWords Go.Proofs.YtpnbhgoblgbdkaaDoorW.PrintLast Go.Proofs.YtpnbhgoblgbdkaaDoorW.PrintMore
/-- The first piece that is not in order. -/
def badAt (ok : ByteArray → Bool) : List ByteArray → Int → Int
  | [], _ => -1
  | x :: xs, i => if ok x = false then i else badAt ok xs (i + 1)
theorem bad_hit (ok : ByteArray → Bool) (l : List ByteArray) (k : Nat) : ∀ i : Int, (hk : k < l.length) → ok l[k] = false → (∀ j (hj : j < l.length), j < k → ok l[j] = true) → badAt ok l i = i + k := by
  induction l generalizing k with
  | nil => intro i hk; simp at hk
  | cons x xs ih =>
    intro i hk h hn
    cases k with
    | zero => simp only [badAt]; rw [if_pos (by simpa using h)]; simp
    | succ k =>
      simp only [badAt]
      have h0 := hn 0 (by simp) (by omega)
      rw [if_neg (by simpa using h0), ih k (i + 1) (by simpa using hk) (by simpa using h) (fun j hj hjk => by have := hn (j + 1) (by simp; omega) (by omega); simpa using this)]
      omega
theorem bad_miss (ok : ByteArray → Bool) (l : List ByteArray) : ∀ i : Int, (∀ j (hj : j < l.length), ok l[j] = true) → badAt ok l i = -1 := by
  induction l with
  | nil => intro i _; rfl
  | cons x xs ih =>
    intro i hn
    simp only [badAt]
    have h0 := hn 0 (by simp)
    rw [if_neg (by simpa using h0)]
    exact ih (i + 1) (fun j hj => by have := hn (j + 1) (by simp; omega); simpa using this)
theorem bad_all (ok : ByteArray → Bool) (l : List ByteArray) : ∀ i : Int, 0 ≤ i → (badAt ok l i ≥ 0 ↔ l.all ok = false) := by
  induction l with
  | nil => intro i _; simp [badAt]
  | cons x xs ih =>
    intro i hi
    simp only [badAt, List.all_cons]
    cases h : ok x with
    | false => simp; exact hi
    | true => simp; exact (ih (i + 1) (by omega)).trans (by simp)
theorem eg59 : ∀ args w, (callFunc 59 args).run Tryd.prog w = .ok (.enter 59 args) w := enters_of Tryd.func59 (by kernel_rfl) rfl
theorem pred59 (ok : ByteArray → Bool) (x : ByteArray) (W : World) (h : ∃ k, impl_partOK.f k x = some (ok x)) : Calls Tryd.prog 59 #[.string x] W fun e w' => e = .returned (.bool (!ok x)) ∧ Drawn0 W w' := by
  obtain ⟨k, h⟩ := h
  have hc := Aside0.mk (fun W => impl_partOK.calls k x (ok x) W h)
  clear h
  generalize ok x = b at hc ⊢
  go_enter Tryd.func59, Tryd.ntmps59
  go_wp2_with (go_at_call 60; refine (hc.out _).mono ?_; rintro e w1 ⟨rfl, hb1⟩)
  go_ret
  exact ⟨rfl, hb1⟩
set_option maxHeartbeats 2000000 in
theorem index77 (ok : ByteArray → Bool) (A : Option Addr) (c : Nat) (l : List ByteArray) (w : World) (hmax : l.length ≤ 9223372036854775807) (hok : ∀ x ∈ l, ∃ k, impl_partOK.f k x = some (ok x))
    (hrow0 : ∀ j, (hj : j < l.length) → ∃ ad, A = some ad ∧ w.cell? (ad.add j) = some (.string l[j])) :
    Calls Tryd.prog 77 #[.slice A l.length c, .func (.func 59) #[] #[]] w fun e w' => e = .returned (.int .i64 (badAt ok l 0)) ∧ Below w.heap.size w w' := by
  have eg := eg59
  have hrow : ∀ (W : World), Below w.heap.size w W → ∀ j, (hj : j < l.length) → ∃ ad, A = some ad ∧ W.cell? (ad.add j) = some (.string l[j]) := fun W hW j hj => by
    obtain ⟨ad, e, h0⟩ := hrow0 j hj
    exact ⟨ad, e, (hW.cell (World.block_lt_of_cell? w _ h0)).trans h0⟩
  have HROW := Aside0.mk hrow
  have HOK := Aside0.mk hok
  clear hrow hrow0 hok
  go_enter Tryd.func77, Tryd.ntmps77
  go_wp2
  go_loopg [5, 8] l.length (fun gg _ s8 wr => ∃ kk : Nat, kk ≤ l.length ∧ l.length - kk ≤ gg ∧ s8 = .int .i64 kk ∧ Aside0 (Below w.heap.size w wr) ∧ Aside0 (∀ j (hj : j < l.length), j < kk → ok l[j] = true))
  case atStart => exact ⟨0, Nat.zero_le _, by omega, rfl, ⟨Below.refl _ w⟩, ⟨fun j hj h => absurd h (Nat.not_lt_zero _)⟩⟩
  case round =>
    obtain ⟨kk, hkk, hg, rfl, BW, AA⟩ := hrel
    by_cases hlt : kk < l.length
    · have hltz : (kk : Int) < (l.length : Int) := by omega
      obtain ⟨ad, rfl, l2⟩ := HROW.out wr BW.out kk hlt
      have hcall := Aside0.mk (fun W => pred59 ok l[kk] W (HOK.out _ (List.getElem_mem hlt)))
      generalize hy : l[kk] = y at l2 hcall
      have HY := Aside0.mk hy
      clear hy
      cases hq : ok y with
      | false =>
        rw [hq] at hcall
        go_wp2_with (go_at_fn 59; refine (hcall.out _).mono ?_; rintro e w' ⟨rfl, hb'⟩)
        go_ret
        refine ⟨?_, BW.out.trans (hb'.below.mono BW.out.size)⟩
        rw [bad_hit ok l kk 0 hlt (by rw [HY.out]; exact hq) AA.out]
        simp
      | true =>
        rw [hq] at hcall
        go_wp2_with (go_at_fn 59; refine (hcall.out _).mono ?_; rintro e w' ⟨rfl, hb'⟩)
        go_roundg (l.length - (kk + 1))
        case measure => omega
        case rel =>
          refine ⟨kk + 1, by omega, by omega, by go_num, ⟨BW.out.trans (hb'.below.mono BW.out.size)⟩, ⟨fun j hj hjk => ?_⟩⟩
          by_cases e : j = kk
          · subst e
            rw [HY.out]; exact hq
          · exact AA.out j hj (by omega)
    · have hltz : ¬ (kk : Int) < (l.length : Int) := by omega
      have hkl : kk = l.length := by omega
      clear hlt
      have hltd : decide ((kk : Int) < (l.length : Int)) = false := decide_eq_false hltz
      go_wp2
      go_ret
      refine ⟨?_, BW.out⟩
      subst hkl
      rw [bad_miss ok l 0 (fun j hj => AA.out j hj hj)]
      try rfl
theorem contains58 (ok : ByteArray → Bool) (A : Option Addr) (c : Nat) (l : List ByteArray) (w : World) (hmax : l.length ≤ 9223372036854775807) (hok : ∀ x ∈ l, ∃ k, impl_partOK.f k x = some (ok x))
    (hrow0 : ∀ j, (hj : j < l.length) → ∃ ad, A = some ad ∧ w.cell? (ad.add j) = some (.string l[j])) :
    Calls Tryd.prog 58 #[.slice A l.length c, .func (.func 59) #[] #[]] w fun e w' => e = .returned (.bool (!l.all ok)) ∧ Below w.heap.size w w' := by
  have hi := Aside0.mk (index77 ok A c l w hmax hok hrow0)
  have hb := Aside0.mk (bad_all ok l 0 (Int.le_refl 0))
  clear hrow0 hok
  generalize badAt ok l 0 = q at hi hb
  go_enter Tryd.func58, Tryd.ntmps58
  go_wp2_with (go_at_call 77; refine hi.out.mono ?_; rintro e w1 ⟨rfl, hb1⟩)
  go_ret
  refine ⟨?_, hb1⟩
  cases hl : l.all ok with
  | false => rw [decide_eq_true (hb.out.2 hl)]; rfl
  | true => rw [decide_eq_false (fun z => by have := hb.out.1 z; rw [hl] at this; cases this)]; rfl
def pieces (s : ByteArray) : List ByteArray := Lib.splitB ⟨#[46]⟩ 0 (Lib.countB s ⟨#[46]⟩) s
def dnsv (ok : ByteArray → Bool) (s : ByteArray) : Bool := if (s.size : Int) > 80 then false else (decide ((pieces s).length ≤ 8) && (pieces s).all ok)
set_option maxHeartbeats 2000000 in
theorem dns24 (ok : ByteArray → Bool) (s : ByteArray) (m : Int) (w : World) (hm : w.cell? ⟨0, 0, none⟩ = some (.int .i64 m)) (hs : s.size < 4294967281) (hok : ∀ x ∈ pieces s, ∃ k, impl_partOK.f k x = some (ok x)) (hlen : (pieces s).length = Lib.countB s ⟨#[46]⟩ + 1) :
    Calls Tryd.prog 24 #[.string s] w fun e w' => e = .returned (.bool (dnsv ok s)) ∧ Below w.heap.size w w' := by
  unfold dnsv
  by_cases c : (s.size : Int) > 80
  · rw [if_pos c]
    have cb : decide ((80 : Int) < (s.size : Int)) = true := decide_eq_true c
    clear hok hm hlen
    go_enter Tryd.func24, Tryd.ntmps24
    go_wp2
    go_ret
    exact ⟨rfl, Below.refl _ _⟩
  · rw [if_neg c]
    have cb : decide ((80 : Int) < (s.size : Int)) = false := decide_eq_false c
    have hS : Calls Tryd.prog 57 #[.string s, .string ⟨#[46]⟩] w fun e w' => e = .returned (.slice (some ⟨w.heap.size, 0, none⟩) (pieces s).length (pieces s).length) ∧ w' = w.alloc (.cells ((pieces s).map Value.string).toArray 9) := by
      rw [hlen]; exact Tryd.strings_Split s ⟨#[46]⟩ m w hs hm (by decide)
    have hmax : (pieces s).length ≤ 9223372036854775807 := by
      have := Lib.countB_le ⟨#[46]⟩ (by decide) s.size s (Nat.le_refl _)
      omega
    generalize pieces s = L at hS hok hmax ⊢
    have hrow : ∀ j, (hj : j < L.length) → ∃ ad, some (⟨w.heap.size, 0, none⟩ : Addr) = some ad ∧ (w.alloc (.cells (L.map Value.string).toArray 9)).cell? (ad.add j) = some (.string L[j]) := fun j hj => by
      refine ⟨_, rfl, ?_⟩
      rw [Addr.add_lit]
      have hh : (w.alloc (.cells (L.map Value.string).toArray 9)).heap[w.heap.size]? = some (.cells (L.map Value.string).toArray 9 (0, 0)) := by show (w.heap.push _)[w.heap.size]? = _; rw [Array.getElem?_push_size]
      rw [blk_cell hh]
      simp [hj]
    have hC := Aside0.mk (contains58 ok (some ⟨w.heap.size, 0, none⟩) L.length L _ hmax hok hrow)
    have HS := Aside0.mk hS
    have hb : Below w.heap.size w (w.alloc (.cells (L.map Value.string).toArray 9)) := (Below.refl _ w).alloc (Nat.le_refl _) _
    have HB := Aside0.mk hb
    clear hS hrow hok hm hlen hb c hs
    generalize w.alloc (.cells (L.map Value.string).toArray 9) = W1 at hC HS HB
    generalize hn : w.heap.size = n0 at hC HS
    by_cases c8 : L.length ≤ 8
    · have c8b : decide ((L.length : Int) ≤ 8) = true := decide_eq_true (by omega)
      go_enter Tryd.func24, Tryd.ntmps24
      go_wp2_with (first
        | (go_at_call 57; refine HS.out.mono ?_; rintro e w1 ⟨rfl, rfl⟩)
        | (go_at_call 58; refine hC.out.mono ?_; rintro e w2 ⟨rfl, hb2⟩))
      go_ret
      refine ⟨?_, by rw [← hn]; exact HB.out.trans (hb2.mono HB.out.size)⟩
      rw [decide_eq_true c8]; cases L.all ok <;> rfl
    · have c8b : decide ((L.length : Int) ≤ 8) = false := decide_eq_false (by omega)
      go_enter Tryd.func24, Tryd.ntmps24
      go_wp2_with (first
        | (go_at_call 57; refine HS.out.mono ?_; rintro e w1 ⟨rfl, rfl⟩)
        | (go_at_call 58; refine hC.out.mono ?_; rintro e w2 ⟨rfl, hb2⟩))
      go_ret
      refine ⟨?_, by rw [← hn]; exact HB.out⟩
      rw [decide_eq_false c8]; rfl
set_option maxHeartbeats 2000000 in
theorem law8 (ok : ByteArray → Bool) (s : ByteArray) (m : Int) (k : Nat) (w : World) (hm : w.cell? ⟨0, 0, none⟩ = some (.int .i64 m)) (hs : (s.size : Int) ≤ 1048576) (hok : ∀ x ∈ pieces s, ∃ k, impl_partOK.f k x = some (ok x)) (hlen : (pieces s).length = Lib.countB s ⟨#[46]⟩ + 1)
    (h : spec_DnsNameOK.f k s = some (dnsv ok s)) :
    Calls Tryd.prog 8 #[.string s] w fun e w' => e = .returned (.bool true) ∧ Below w.heap.size w w' := by
  have cb : decide ((1048576 : Int) < (s.size : Int)) = false := decide_eq_false (by omega)
  have h23 := Aside0.mk (spec_DnsNameOK.calls k s _ w h)
  have h24 := Aside0.mk (fun W (hW : Below w.heap.size w W) => dns24 ok s m W ((hW.cell (World.block_lt_of_cell? w _ hm)).trans hm) (by omega) hok hlen)
  clear h hm hok hlen hs
  generalize dnsv ok s = v at h23 h24
  go_enter Tryd.func8, Tryd.ntmps8
  go_wp2_with (first
    | (go_at_call 23; refine h23.out.mono ?_; rintro e w1 ⟨rfl, hb1⟩; have HB1 := Aside0.mk hb1; clear hb1)
    | (go_at_call 24; refine (h24.out _ HB1.out).mono ?_; rintro e w2 ⟨rfl, hb2⟩; have HB2 := Aside0.mk hb2; clear hb2))
  go_ret
  exact ⟨rfl, HB1.out.trans (HB2.out.mono HB1.out.size)⟩
theorem law8_big (s : ByteArray) (w : World) (hs : ¬ (s.size : Int) ≤ 1048576) :
    Calls Tryd.prog 8 #[.string s] w fun e w' => e = .returned (.bool true) ∧ Below w.heap.size w w' := by
  have cb : decide ((1048576 : Int) < (s.size : Int)) = true := decide_eq_true (by omega)
  go_enter Tryd.func8, Tryd.ntmps8
  go_wp2
  go_ret
  exact ⟨rfl, Below.refl _ _⟩
end Go.Proofs.YtpnbhgoblgbdkaaDoor.PDn
