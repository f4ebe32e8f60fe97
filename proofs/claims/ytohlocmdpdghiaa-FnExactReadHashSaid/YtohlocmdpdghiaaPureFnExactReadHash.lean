/- ReadHash: sixty-four digits, two a byte: the program reads all pairs of a text and asks for its length then, the reference asks first. -/
import Derived.Test.YtohlocmdpdghiaaPRhx1
import Derived.Test.YtohlocmdpdghiaaBase
set_option linter.unusedSimpArgs false
set_option linter.unusedVariables false
namespace Go.Proofs.Ytohlocmdpdghiaa.Pure
open Go.RowKit Go.Proofs.Ytohlocmdpdghiaa.PRh Go.Proofs.YtohlocmdpdghiaaW.PrintWords Go.Proofs.YtohlocmdpdghiaaW.PrintLast Go.Proofs.YtohlocmdpdghiaaW.PrintMore Base

-- SAYS: ReadHash: sixty-four digits, two a byte: the program reads all pairs of a text and asks for its length then, the reference asks first.
abbrev digs : ByteArray := ⟨#[48, 49, 50, 51, 52, 53, 54, 55, 56, 57, 97, 98, 99, 100, 101, 102]⟩
def nib (c : Int) : Int := Lib.indexByte digs.data.toList c.toNat.toUInt8
def nibS (c : Int) : Int := if 48 ≤ c ∧ c ≤ 57 then c - 48 else if 97 ≤ c ∧ c ≤ 102 then c - 87 else -1
theorem nib_all : ∀ n : Fin 256, nib ((n.val : Nat) : Int) = nibS ((n.val : Nat) : Int) := by decide +kernel
theorem nib_eq (c : Int) (h0 : 0 ≤ c) (h1 : c ≤ 255) : nib c = nibS c := by
  have := nib_all ⟨c.toNat, by omega⟩
  simpa [Int.toNat_of_nonneg h0] using this
theorem nib_range (c : Int) (h0 : 0 ≤ c) (h1 : c ≤ 255) : -1 ≤ nib c ∧ nib c ≤ 15 := by
  rw [nib_eq c h0 h1]; unfold nibS; (repeat' split) <;> omega
theorem spec_nib (c : Int) (h0 : 0 ≤ c) (h1 : c ≤ 255) : Ev (fun k => spec_l04Nibble.f k c) (nib c) := by
  rw [nib_eq c h0 h1]
  have w0 : wrap64 c = c := wrap64_id (by omega) (by omega)
  unfold nibS
  by_cases h : 48 ≤ c ∧ c ≤ 57
  · rw [if_pos h]
    refine Ev.congr (f := fun k => spec_l04Nibble.j0 k c true) (fun k => by unfold spec_l04Nibble.f; rw [if_pos (by omega), decide_eq_true h.2]) (Ev.step (fun k => ?_) (Ev.now _))
    simp only [spec_l04Nibble.j0, w0]; rw [if_pos trivial, wrap64_id (by omega) (by omega)]
  · rw [if_neg h]
    have hj : ∀ r, Ev (fun k => spec_l04Nibble.j0 k c false) r → Ev (fun k => spec_l04Nibble.f k c) r := fun r hr => Ev.congr (fun k => by
      unfold spec_l04Nibble.f
      by_cases g : c ≥ 48
      · rw [if_pos g, decide_eq_false (fun g2 => h ⟨g, g2⟩)]
      · rw [if_neg g]) hr
    by_cases h2 : 97 ≤ c ∧ c ≤ 102
    · rw [if_pos h2]
      refine hj _ (Ev.step (fun k => ?_) (Ev.now _))
      simp only [spec_l04Nibble.j0, w0]
      rw [if_neg (by decide), if_pos h2.1, if_pos h2.2, wrap64_id (x := c - 97) (by omega) (by omega), wrap64_id (by omega) (by omega)]
      congr 1; omega
    · rw [if_neg h2]
      refine hj _ (Ev.step (fun k => ?_) (Ev.now _))
      simp only [spec_l04Nibble.j0]
      rw [if_neg (by decide)]
      by_cases g : c ≥ 97
      · rw [if_pos g, if_neg (fun g2 => h2 ⟨g, g2⟩)]
      · rw [if_neg g]
def outI (s : ByteArray) : Option (List Int) → ByteArray × Bool
  | none => (⟨#[]⟩, false)
  | some a => (strOfNums a, ((s.size : Int) % 2) == 0)
def outS : Option (List Int) → ByteArray × Int
  | none => (⟨#[]⟩, 3)
  | some a => (strOfNums a, 0)
theorem hex_l0 (s : ByteArray) (hs : s.size ≤ 65536) (d : Nat) : ∀ (j : Nat) (acc : List Int), j + d = s.size / 2 → acc.length = j → ∃ res : Option (List Int), (∀ a, res = some a → a.length = s.size / 2) ∧ Ev (fun k => impl_readHex.l0 k s acc ((2 * j : Nat) : Int)) (outI s res) ∧ (s.size % 2 = 0 → Ev (fun k => spec_ReadHash.l0 k s acc ((2 * j : Nat) : Int)) (outS res)) := by
  induction d with
  | zero =>
    intro j acc hj ha
    have w1 : wrap64 (((2 * j : Nat) : Int) + 1) = ((2 * j + 1 : Nat) : Int) := by rw [wrap64_id (by omega) (by omega)]; omega
    refine ⟨some acc, fun a h => by injection h with h; rw [← h]; omega, Ev.step (fun k => ?_) (Ev.now _), fun he => Ev.step (fun k => ?_) (Ev.now _)⟩
    · simp only [impl_readHex.l0, w1]; rw [if_neg (by omega)]; rfl
    · simp only [spec_ReadHash.l0]; rw [if_neg (by omega)]; rfl
  | succ d ih =>
    intro j acc hj ha
    have w1 : wrap64 (((2 * j : Nat) : Int) + 1) = ((2 * j + 1 : Nat) : Int) := by rw [wrap64_id (by omega) (by omega)]; omega
    have w2 : wrap64 (((2 * j : Nat) : Int) + 2) = ((2 * (j + 1) : Nat) : Int) := by rw [wrap64_id (by omega) (by omega)]; omega
    have a0 := bt_0 s ((2 * j : Nat) : Int)
    have a1 := bt_255 s ((2 * j : Nat) : Int)
    have b0 := bt_0 s ((2 * j + 1 : Nat) : Int)
    have b1 := bt_255 s ((2 * j + 1 : Nat) : Int)
    have rn1 := nib_range _ a0 a1
    have rn2 := nib_range _ b0 b1
    have sn1 := spec_nib _ a0 a1
    have sn2 := spec_nib _ b0 b1
    have p1 : ((2 * j + 1 : Nat) : Int) < (s.size : Int) := by omega
    have p2 : (0 : Int) ≤ ((2 * j : Nat) : Int) := by omega
    have p3 : ((2 * j : Nat) : Int) < (s.size : Int) := by omega
    have p4 : (0 : Int) ≤ ((2 * j + 1 : Nat) : Int) := by omega
    have eI : ∀ r, Ev (fun k => if nib (bt s ((2 * j : Nat) : Int)) < 0 then some ((⟨#[]⟩ : ByteArray), false) else (if nib (bt s ((2 * j + 1 : Nat) : Int)) < 0 then some ((⟨#[]⟩ : ByteArray), false) else impl_readHex.l0 k s (acc ++ [(wrap64 ((wrap64 (16 * nib (bt s ((2 * j : Nat) : Int)))) + nib (bt s ((2 * j + 1 : Nat) : Int)))) % 256]) ((2 * (j + 1) : Nat) : Int))) r → Ev (fun k => impl_readHex.l0 k s acc ((2 * j : Nat) : Int)) r := fun r h => Ev.step (fun k => by
      simp only [impl_readHex.l0, w1, w2, strings_IndexByte.f]
      rw [if_pos p1, if_pos p2, if_pos p3]
      simp only [Option.bind_some]
      rw [if_pos p4]
      have : acc.length < 140737488355328 := by omega
      simp only [this, if_true]; rfl) h
    have eS : ∀ r, Ev (fun k => if nib (bt s ((2 * j : Nat) : Int)) < 0 then some ((⟨#[]⟩ : ByteArray), (3 : Int)) else (if nib (bt s ((2 * j + 1 : Nat) : Int)) < 0 then some ((⟨#[]⟩ : ByteArray), (3 : Int)) else spec_ReadHash.l0 k s (acc ++ [(wrap64 ((wrap64 (16 * nib (bt s ((2 * j : Nat) : Int)))) + nib (bt s ((2 * j + 1 : Nat) : Int)))) % 256]) ((2 * (j + 1) : Nat) : Int))) r → Ev (fun k => spec_ReadHash.l0 k s acc ((2 * j : Nat) : Int)) r := fun r h => by
      refine Ev.step (fun k => by simp only [spec_ReadHash.l0, w1, w2]; rw [if_pos p3, if_pos p2]) ?_
      refine Ev.bind sn1 ?_
      refine Ev.congr (fun k => by rw [if_pos p4, if_pos p1]) ?_
      refine Ev.bind sn2 (Ev.congr (fun k => ?_) h)
      have : acc.length < 140737488355328 := by omega
      simp only [this, if_true]
    by_cases n1 : nib (bt s ((2 * j : Nat) : Int)) < 0
    · refine ⟨none, (fun a h => by cases h), eI _ (Ev.congr (fun k => by rw [if_pos n1]; rfl) (Ev.now _)), fun _ => eS _ (Ev.congr (fun k => by rw [if_pos n1]; rfl) (Ev.now _))⟩
    · by_cases n2 : nib (bt s ((2 * j + 1 : Nat) : Int)) < 0
      · refine ⟨none, (fun a h => by cases h), eI _ (Ev.congr (fun k => by rw [if_neg n1, if_pos n2]; rfl) (Ev.now _)), fun _ => eS _ (Ev.congr (fun k => by rw [if_neg n1, if_pos n2]; rfl) (Ev.now _))⟩
      · obtain ⟨res, hl, hI, hS⟩ := ih (j + 1) (acc ++ [(wrap64 ((wrap64 (16 * nib (bt s ((2 * j : Nat) : Int)))) + nib (bt s ((2 * j + 1 : Nat) : Int)))) % 256]) (by omega) (by simp [ha])
        exact ⟨res, hl, eI _ (Ev.congr (fun k => by rw [if_neg n1, if_neg n2]) hI), fun he => eS _ (Ev.congr (fun k => by rw [if_neg n1, if_neg n2]) (hS he))⟩
theorem FnExactReadHash : laws_FnExactReadHash.Pure := by
  intro s hs
  apply Ev.rounds
  by_cases h0 : (s.size : Int) > 1048576
  · refine Ev.congr (fun k => ?_) (Ev.now true)
    unfold laws_FnExactReadHash.f; rw [if_pos h0]
  · have key : ∃ r, Ev (fun k => spec_ReadHash.f k s) r ∧ Ev (fun k => impl_ReadHash.f k s) r := by
      by_cases h1 : (s.size : Int) > 65536
      · exact ⟨_, Ev.congr (fun k => by unfold spec_ReadHash.f; rw [if_pos h1]) (Ev.now _), Ev.congr (fun k => by unfold impl_ReadHash.f; rw [if_pos h1]) (Ev.now _)⟩
      · obtain ⟨res, hl, hI, hS⟩ := hex_l0 s (by omega) (s.size / 2) 0 [] (by omega) rfl
        have eI : ∀ r, Ev (fun k => if (outI s res).2 = true then ((impl_hashOK.f (outI s res).1).bind fun t119 => (if t119 = true then (some ((outI s res).1, (0 : Int))) else (some ((⟨#[]⟩ : ByteArray), 3)))) else (some ((⟨#[]⟩ : ByteArray), 3))) r → Ev (fun k => impl_ReadHash.f k s) r := fun r h => by
          refine Ev.congr (fun k => by unfold impl_ReadHash.f; rw [if_neg h1]) ?_
          exact Ev.bind (Ev.congr (fun k => rfl) hI) h
        by_cases h2 : s.size = 64
        · have hS' := hS (by omega)
          refine ⟨outS res, Ev.congr (fun k => by unfold spec_ReadHash.f; rw [if_neg h1, if_pos (by omega)]; rfl) hS', eI _ (Ev.congr (fun k => ?_) (Ev.now _))⟩
          cases res with
          | none => rfl
          | some a =>
            have hz : (strOfNums a).size = 32 := by rw [strOfNums_size, hl a rfl, h2]
            have h3 : (((s.size : Int) % 2) == 0) = true := by simp; omega
            simp only [outI, outS, h3, if_true, impl_hashOK.f, hz, Option.bind_some]
            rfl
        · refine ⟨(⟨#[]⟩, 3), Ev.congr (fun k => by unfold spec_ReadHash.f; rw [if_neg h1, if_neg (by omega)]) (Ev.now _), eI _ (Ev.congr (fun k => ?_) (Ev.now _))⟩
          cases res with
          | none => rfl
          | some a =>
            have hz : (strOfNums a).size = s.size / 2 := by rw [strOfNums_size, hl a rfl]
            by_cases h3 : s.size % 2 = 0
            · have h4 : (((s.size : Int) % 2) == 0) = true := by simp; omega
              have h5 : (((strOfNums a).size : Int) == 32) = false := by rw [hz]; simp; omega
              simp only [outI, h4, if_true, impl_hashOK.f, h5, Option.bind_some]
              rfl
            · have h4 : (((s.size : Int) % 2) == 0) = false := by simp; omega
              simp only [outI, h4]
              rfl
    obtain ⟨⟨r1, r2⟩, hS, hI⟩ := key
    refine Ev.congr (fun k => by unfold laws_FnExactReadHash.f; rw [if_neg h0]) ?_
    refine Ev.bind hS (Ev.bind hI ?_)
    simp only [if_true]
    exact Ev.now _

end Go.Proofs.Ytohlocmdpdghiaa.Pure
