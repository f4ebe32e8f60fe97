/- The walk of impl.sha, part 9: SHA-256 over arrays, a range over slices.Chunk (by hand, over the print of impl.num and impl.be). Nothing here is trusted: it is checked. -/
import Derived.Test.YtohlocmdpdghiaaDoorZHfS8
import Derived.Lib.LaidTab
namespace Go.Proofs.YtohlocmdpdghiaaDoor.Sha
open Go.RowKit Go.Proofs.YtohlocmdpdghiaaDoor.PHn Go.Proofs.YtohlocmdpdghiaaDoorW.PrintWords
set_option linter.unusedVariables false
def tab : List Int := [1116352408, 1899447441, 3049323471, 3921009573, 961987163, 1508970993, 2453635748, 2870763221, 3624381080, 310598401, 607225278, 1426881987, 1925078388, 2162078206, 2614888103, 3248222580, 3835390401, 4022224774, 264347078, 604807628, 770255983, 1249150122, 1555081692, 1996064986, 2554220882, 2821834349, 2952996808, 3210313671, 3336571891, 3584528711, 113926993, 338241895, 666307205, 773529912, 1294757372, 1396182291, 1695183700, 1986661051, 2177026350, 2456956037, 2730485921, 2820302411, 3259730800, 3345764771, 3516065817, 3600352804, 4094571909, 275423344, 430227734, 506948616, 659060556, 883997877, 958139571, 1322822218, 1537002063, 1747873779, 1955562222, 2024104815, 2227730452, 2361852424, 2428436474, 2756734187, 3204031479, 3329325298]
/-- The package's table of the rounds' numbers, as the world holds it. -/
def Tab (w : World) : Prop := Lib.TabIs Tryd.prog w "loop.example/g00356/impl.shaRounds" .u32 tab
theorem Tab.block {w : World} (h : Tab w) : ∃ tt fr, w.heap[0]? = some (.cells (u32s tab) tt fr) := by
  unfold Tab Lib.TabIs World.var? at h
  rw [show Tryd.prog.globalNamed "loop.example/g00356/impl.shaRounds" = some 0 from by kernel_rfl] at h
  simp only [Option.bind_some] at h
  split at h
  · rename_i cs t fr hh
    obtain rfl := Option.some.inj h
    exact ⟨t, fr, hh⟩
  · cases h
theorem Tab.below {w W : World} (h : Tab w) (hb : Below w.heap.size w W) : Tab W := by
  obtain ⟨tt, fr, hh⟩ := h.block
  have hW : W.heap[0]? = some (.cells (u32s tab) tt fr) := (hb.block 0 (blk_lt hh)).trans hh
  unfold Tab Lib.TabIs World.var?
  rw [show Tryd.prog.globalNamed "loop.example/g00356/impl.shaRounds" = some 0 from by kernel_rfl]
  simp only [Option.bind_some]
  rw [hW]
  rfl
theorem sha_tab (A0 : Option Addr) (c0 : Nat) (l0 : List Int) (w : World) (hr0 : Kd.C (Kd.int .u8) w A0 l0.length l0) (hc0 : l0.length ≤ c0) (hby : ∀ x ∈ l0, 0 ≤ x ∧ x < 256) (hlen : l0.length ≤ 1000000) (ht : Tab w) :
    Calls Tryd.prog 22 #[.slice A0 l0.length c0] w fun e w' => e = .returned (.string (shaS tab l0)) ∧ Below w.heap.size w w' := by
  obtain ⟨tt, fr, hh⟩ := ht.block
  exact sha_calls A0 c0 l0 w hr0 hc0 hby hlen tab rfl tt fr hh
end Go.Proofs.YtohlocmdpdghiaaDoor.Sha
