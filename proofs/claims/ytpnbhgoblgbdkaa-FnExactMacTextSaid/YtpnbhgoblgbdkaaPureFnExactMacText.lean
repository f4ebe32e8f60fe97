/- MacText: six bytes in two digits each with colons between: the reference writes them behind one another, the program joins six texts. -/
import Derived.Test.YtpnbhgoblgbdkaaPMtx2
import Derived.Test.YtpnbhgoblgbdkaaBase
import Derived.Laws.BitsLemmas
set_option linter.unusedSimpArgs false
set_option linter.unusedVariables false
namespace Go.Proofs.Ytpnbhgoblgbdkaa.Pure
open Go.RowKit Go.Proofs.Ytpnbhgoblgbdkaa.PMt Go.Proofs.YtpnbhgoblgbdkaaW.PrintWords Go.Proofs.YtpnbhgoblgbdkaaW.PrintLast Go.Proofs.YtpnbhgoblgbdkaaW.PrintMore Base

-- SAYS: MacText: six bytes in two digits each with colons between: the reference writes them behind one another, the program joins six texts.
-- IMPORTS: Derived.Laws.BitsLemmas
abbrev digs : ByteArray := ⟨#[48, 49, 50, 51, 52, 53, 54, 55, 56, 57, 97, 98, 99, 100, 101, 102]⟩
def two (s : ByteArray) (i : Nat) : List Int := [bt digs (bt s (i : Int) / 16), bt digs (bt s (i : Int) % 16)]
def mt (s : ByteArray) : Nat → Nat → List Int
  | 0, _ => []
  | m + 1, i => (if i = 0 then [] else [58]) ++ (two s i ++ mt s m (i + 1))
def pt (s : ByteArray) : Nat → Nat → List ByteArray
  | 0, _ => []
  | m + 1, i => strOfNums (two s i) :: pt s m (i + 1)
theorem and15 (s : ByteArray) (i : Int) : Go.bits .and .u8 (bt s i) 15 = bt s i % 16 := u8_and15 (bt s i) (bt_0 s i) (by have := bt_255 s i; omega)
theorem spec_mac_l0 (s : ByteArray) (hs : s.size = 6) (m : Nat) : ∀ (i : Nat) (acc : List Int), i + m = 6 → acc.length ≤ 100 * i → Ev (fun k => spec_l01MacText.l0 k s acc (i : Int)) (strOfNums (acc ++ mt s m i)) := by
  induction m with
  | zero =>
    intro i acc hi _
    refine Ev.step (f := fun _ => some (strOfNums (acc ++ mt s 0 i))) (fun k => ?_) (Ev.now _)
    simp only [spec_l01MacText.l0, mt, List.append_nil]; rw [if_neg (by omega)]
  | succ m ih =>
    intro i acc hi ha
    have hw : wrap64 ((i : Int) + 1) = ((i + 1 : Nat) : Int) := by rw [wrap64_id (by omega) (by omega)]; omega
    have b0 := bt_0 s i
    have b1 := bt_255 s i
    have c1 : (0 : Int) ≤ bt s i / 16 := by omega
    have c2 : bt s i / 16 < 16 := by omega
    have c3 : (0 : Int) ≤ bt s i % 16 := by omega
    have c4 : bt s i % 16 < 16 := by omega
    by_cases h0 : i = 0
    · have h := ih (i + 1) (acc ++ two s i) (by omega) (by simp [two]; omega)
      have e : acc ++ two s i ++ mt s m (i + 1) = acc ++ mt s (m + 1) i := by simp [mt, h0]
      rw [e] at h
      refine Ev.step (fun k => ?_) h
      simp only [spec_l01MacText.l0, and15, hw]
      rw [if_pos (by omega), if_neg (by omega), if_pos (by omega), if_pos c1, if_pos c2, if_pos c3, if_pos c4]
      simp only [Option.bind_some, List.length_cons, List.length_nil]
      rw [if_pos (by omega)]; rfl
    · have h := ih (i + 1) (acc ++ [58] ++ two s i) (by omega) (by simp [two]; omega)
      have e : acc ++ [58] ++ two s i ++ mt s m (i + 1) = acc ++ mt s (m + 1) i := by simp [mt, h0]
      rw [e] at h
      refine Ev.step (fun k => ?_) h
      simp only [spec_l01MacText.l0, and15, hw]
      rw [if_pos (by omega), if_pos (by omega), if_pos (by omega)]
      simp only [Option.bind_some]
      rw [if_pos (by omega), if_pos c1, if_pos c2, if_pos c3, if_pos c4]
      simp only [List.length_append, List.length_cons, List.length_nil]
      rw [if_pos (by omega)]; rfl
theorem cut_bt (s : ByteArray) (i : Nat) (h : i < s.size) : bt (s.extract i (i + 1)) 0 = bt s (i : Int) := by
  rw [show (0 : Int) = ((0 : Nat) : Int) from rfl, bt_nat, bt_nat, ByteArray.data_extract, Array.toList_extract, List.extract_eq_take_drop, List.getD_eq_getElem?_getD, List.getD_eq_getElem?_getD, List.getElem?_take_of_lt (by omega), List.getElem?_drop, Nat.add_zero]
theorem impl_hex1 (s : ByteArray) (i : Nat) (h : i < s.size) : Ev (fun k => impl_hexText.f k (s.extract i (i + 1))) (strOfNums (two s i)) := by
  have hz : (s.extract i (i + 1)).size = 1 := by rw [ByteArray.size_extract]; omega
  have b0 := bt_0 s i
  have b1 := bt_255 s i
  have c1 : (0 : Int) ≤ bt s i / 16 := by omega
  have c2 : bt s i / 16 < 16 := by omega
  have c3 : (0 : Int) ≤ bt s i % 16 := by omega
  have c4 : bt s i % 16 < 16 := by omega
  have w1 : wrap64 ((0 : Int) + 1) = 1 := by rw [wrap64_id (by omega) (by omega)]; rfl
  refine Ev.congr (f := fun k => impl_hexText.l0 k (s.extract i (i + 1)) [] 1 0) (fun k => by unfold impl_hexText.f; rw [hz]; rfl) ?_
  refine Ev.step (f := fun k => impl_hexText.l0 k (s.extract i (i + 1)) (two s i) 1 1) (fun k => ?_) (Ev.step (fun k => ?_) (Ev.now _))
  · simp only [impl_hexText.l0, nib_hi, nib_lo, cut_bt s i h, hz, w1]
    rw [if_pos (by decide), if_pos (by decide), if_pos (by decide), if_pos c1, if_pos c2, if_pos c3, if_pos c4]
    simp only [Option.bind_some, List.length_cons, List.length_nil]
    rw [if_pos (by decide)]; rfl
  · simp only [impl_hexText.l0]; rw [if_neg (by decide)]
def joined (ps : List ByteArray) : ByteArray := ⟨(Lib.join (ps.map (·.data.toList)) (⟨#[58]⟩ : ByteArray).data.toList).toArray⟩
theorem impl_mac_l0 (s : ByteArray) (hs : s.size = 6) (r : ByteArray) (m : Nat) : ∀ (i : Nat) (acc : List ByteArray), i + m = 6 → acc.length ≤ i → strings_Join.f (acc ++ pt s m i) ⟨#[58]⟩ = some r → Ev (fun k => impl_macText.l0 k s acc (i : Int)) r := by
  induction m with
  | zero =>
    intro i acc hi _ hj
    refine Ev.step (f := fun _ => some r) (fun k => ?_) (Ev.now _)
    simp only [pt, List.append_nil] at hj
    simp only [impl_macText.l0]; rw [if_neg (by omega), hj]; rfl
  | succ m ih =>
    intro i acc hi ha hj
    have hw : wrap64 ((i : Int) + 1) = ((i + 1 : Nat) : Int) := by rw [wrap64_id (by omega) (by omega)]; omega
    have h := ih (i + 1) (acc ++ [strOfNums (two s i)]) (by omega) (by simp; omega) (by rw [List.append_assoc]; exact hj)
    refine Ev.step (f := fun k => (impl_hexText.f k (s.extract i (i + 1))).bind fun t133 => (if acc.length < 8796093022208 then (impl_macText.l0 k s (acc ++ [t133]) ((i + 1 : Nat) : Int)) else none)) (fun k => ?_) (Ev.bind (impl_hex1 s i (by omega)) ?_)
    · simp only [impl_macText.l0, hw, Int.toNat_natCast]
      rw [if_pos (by omega), if_pos (by omega), if_pos (by omega), if_pos (by omega)]
    · refine Ev.congr (fun k => ?_) h
      rw [if_pos (by omega)]
theorem macText (s : ByteArray) (hs : s.size = 6) : ∃ r, Ev (fun k => spec_l01MacText.f k s) r ∧ Ev (fun k => impl_macText.f k s) r := by
  refine ⟨strOfNums (mt s 6 0), ?_, ?_⟩
  · exact Ev.congr (fun k => rfl) (spec_mac_l0 s hs 6 0 [] (by omega) (by simp))
  · refine Ev.congr (fun k => rfl) (impl_mac_l0 s hs _ 6 0 [] (by omega) (by simp) ?_)
    have e : (Lib.join (([] ++ pt s 6 0).map (fun x : ByteArray => x.data.toList)) (⟨#[58]⟩ : ByteArray).data.toList) = (mt s 6 0).map fun n => UInt8.ofNat n.toNat := by
      simp [pt, mt, two, Lib.join, strOfNums_data]
    unfold strings_Join.f
    rw [e, if_neg (by simp [pt]), if_pos (by simp [pt]), if_pos (by simp [mt, two])]
    rfl
theorem FnExactMacText : laws_FnExactMacText.Pure := by
  intro s hs
  apply Ev.rounds
  by_cases h0 : (s.size : Int) > 1048576
  · refine Ev.congr (fun k => ?_) (Ev.now true)
    unfold laws_FnExactMacText.f; rw [if_pos h0]
  · have key : ∃ r, Ev (fun k => spec_MacText.f k s) r ∧ Ev (fun k => impl_MacText.f k s) r := by
      by_cases h1 : (s.size : Int) > 65536
      · exact ⟨_, Ev.congr (fun k => by unfold spec_MacText.f; rw [if_pos h1]) (Ev.now _), Ev.congr (fun k => by unfold impl_MacText.f; rw [if_pos h1]) (Ev.now _)⟩
      · by_cases h2 : s.size = 6
        · obtain ⟨r, hS, hI⟩ := macText s h2
          have h3 : ((s.size : Int) == 6) = true := by simp; omega
          exact ⟨(r, 0), Ev.congr (fun k => by unfold spec_MacText.f spec_l01Mac.f; rw [if_neg h1, h3, Option.bind_some, if_pos rfl]) (Ev.bind hS (Ev.now _)), Ev.congr (fun k => by unfold impl_MacText.f impl_macOK.f; rw [if_neg h1, h3, Option.bind_some, if_pos rfl]) (Ev.bind hI (Ev.now _))⟩
        · have h3 : ((s.size : Int) == 6) = false := by simp; omega
          exact ⟨_, Ev.congr (fun k => by unfold spec_MacText.f spec_l01Mac.f; rw [if_neg h1, h3, Option.bind_some, if_neg (by decide)]) (Ev.now _), Ev.congr (fun k => by unfold impl_MacText.f impl_macOK.f; rw [if_neg h1, h3, Option.bind_some, if_neg (by decide)]) (Ev.now _)⟩
    obtain ⟨⟨r1, r2⟩, hS, hI⟩ := key
    refine Ev.congr (fun k => by unfold laws_FnExactMacText.f; rw [if_neg h0]) ?_
    refine Ev.bind hS (Ev.bind hI ?_)
    simp only [if_true]
    exact Ev.now _

end Go.Proofs.Ytpnbhgoblgbdkaa.Pure
