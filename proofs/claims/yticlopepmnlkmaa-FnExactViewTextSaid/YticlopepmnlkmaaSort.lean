/- slices.Sort at []int, off the shelf, in the words of the contracts here; slices.Clone at []int. -/
import Derived.Shelf.Lay
import Derived.Shelf.Sort.AssemblyIn
import Derived.Sort.EveryDepth
import Derived.Sort.OwnSortedInts
import Derived.Test.YticlopepmnlkmaaBasic
namespace Go.Proofs.Yticlopepmnlkmaa
open Go Go.RowKit

open Go.Shelf in
shelf_lay Lays.n189 Nm 189 at Try as sortLays
theorem Ints.nil_of_none {lo hi : Nat} {w : World} {a : Option Addr} {c : Nat} {xs : List Int} (h : Ints lo hi w a c xs) (ha : a.isNone = true) : xs = [] := by
  rcases Nat.eq_zero_or_pos xs.length with h0 | h0
  · exact List.eq_nil_of_length_eq_zero h0
  · have := h.isSome h0
    rw [this] at ha; cases ha
def srt (xs : List Int) : List Int := xs.mergeSort fun x y => decide (x ≤ y)
theorem own_zadd {lo : Nat} {w : World} {E : TypeId} {a : Option Addr} {n c : Nat} {ds : List Value} (h : Own lo w E 1 a (0 + n) c (([] : List Value) ++ ds)) : Own lo w E 1 a n c ds := by rw [Nat.zero_add] at h; exact h
theorem srt_perm (xs : List Int) : (srt xs).Perm xs := List.mergeSort_perm xs _
theorem srt_len (xs : List Int) : (srt xs).length = xs.length := (srt_perm xs).length_eq
theorem srt_sorted (xs : List Int) : (srt xs).Pairwise (fun x y => x ≤ y) := by
  have := List.pairwise_mergeSort (le := fun x y : Int => decide (x ≤ y)) (fun a b c h1 h2 => by simp at *; omega) (fun a b => by simp; omega) xs
  simpa [srt] using this
open Go.Sort in
theorem Sort_spec {lo : Nat} (a : Option Addr) (c : Nat) (xs : List Int) (w : World) (hO : Own lo w 3 1 a xs.length c (xs.map VI)) (hn : 0 < xs.length) (hm : xs.length ≤ 1048576) :
    Fn Try.prog 44 #[.slice a xs.length c] w (fun v w' => v = .tuple #[] ∧ Own lo w' 3 1 a xs.length c ((srt xs).map VI) ∧ Apd w w' a) := by
  obtain ⟨hl, hO⟩ := hO
  rcases hO with ⟨hv, h0⟩ | ⟨g, cap, cur, hv, hb, hg, h1, h2, h3, h4⟩
  · omega
  cases hv
  refine ⟨by kernel_rfl, ?_⟩
  have hH : Holds (Value.int .i64) w g 0 xs.toArray := holds_of_blockI hg (by rw [Nat.mul_one] at h4; exact h4)
  have hs := calls_of_every_depth fun D => AnyS.slices_Sort_int_in sortLays D g 0 c xs w hH (Array.getElem?_eq_some_iff.1 hg).1 (by omega)
  refine Calls.mono hs ?_
  rintro e w' ⟨rfl, n, os, rfl⟩
  refine ⟨_, rfl, rfl, ?_, ?_⟩
  · exact ownsRow_sortedI (by simp [srt]) hb hg h1 h2 h3
  · exact (Keep.of_grown (grownBy_sortedI _)).mono fun k hk => ⟨hk.1, fun he => hk.2 ⟨g, 0, none⟩ rfl (by cases he; rfl)⟩

set_option maxRecDepth 100000 in
theorem Clone_int {lo hi : Nat} (a : Option Addr) (c : Nat) (xs : List Int) (w : World) (hx : Ints lo hi w a c xs) (hhi : hi ≤ w.heap.size) (hm : xs.length ≤ 1048576) :
    Fn Try.prog 43 #[.slice a xs.length c] w (fun v w' => ∃ a' c', v = .slice a' xs.length c' ∧ Own w.heap.size w' 3 1 a' xs.length c' (xs.map VI) ∧ Ext w w') := by
  have hE := Ext.refl w
  refine Fn_of Try.func43 rfl rfl (by kernel_rfl) rfl ?_
  refine W_seq ?_
  refine W_region ?_
  refine WL_q rfl (ev_assign rfl) ?_
  refine WL_nil ?_
  refine thenE_n ?_
  refine W_seq ?_
  refine W_seq ?_
  refine W_region ?_
  refine WL_q rfl (ev_move rfl) ?_
  refine WL_q rfl (ev_eql_nil Try.underlying23 rfl rfl) ?_
  refine WL_nil ?_
  refine thenE_n ?_
  refine W_cond rfl (fun hg4 => ?_) (fun hg4 => ?_)
  · refine W_seq ?_
    refine W_region ?_
    refine WL_q rfl (ev_assign rfl) ?_
    refine WL_nil ?_
    refine thenE_n ?_
    refine W_ret ?_
    refine thenE_r ?_
    refine ret1 rfl rfl ?_
    obtain rfl := Ints.nil_of_none hx hg4; exact ⟨none, 0, rfl, Own.nil _ _ _ _, hE⟩
  · refine W_skip ?_
    refine thenE_n ?_
    refine W_seq ?_
    refine W_region ?_
    refine WL_m rfl (ev_lit0 Try.underlying23 el3) ?_
    rintro _ w5 ⟨rfl, hN5⟩
    have hz5 := hN5.size
    replace hE := hE.trans hN5.ext
    replace hx := hx.ext hN5.ext
    have hB5 := hN5.blk
    have hO5 := Own.of_new (n := 0) (sz := 1) hN5 rfl (by decide)
    refine WL_q rfl (ev_move rfl) ?_
    refine WL_m rfl (ev_append Try.underlying23 el3 rfl (by decide) rfl rfl hO5 hx.sat (by simp) (by simp [Value.oneCell']) (by omega) (by unfold maxLen; omega) (by omega)) ?_
    rintro _ w7 ⟨a7, c7, rfl, hO7, hK7, hQ7⟩
    have hz7 := hK7.size
    replace hE := hE.app hK7 (fun q hq => (hO5.block q hq).1)
    replace hx := hx.app hK7 (hO5) (by omega)
    replace hO5 := hO7
    refine WL_q rfl (ev_assign rfl) ?_
    refine WL_nil ?_
    refine thenE_n ?_
    refine W_ret ?_
    refine ret1 rfl rfl ?_
    exact ⟨a7, c7, by rw [Nat.zero_add], own_zadd hO5, hE⟩

end Go.Proofs.Yticlopepmnlkmaa
