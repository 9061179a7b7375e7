/- slices.Sort at []int, off the shelf, in the words of the contracts here; slices.Clone at []int. -/
import Derived.Shelf.Sort.AssemblyIn
import Derived.Sort.EveryDepth
import Derived.Sort.OwnSortedInts
import Derived.Test.YtebjcbgencenbaaGreatBasic
namespace Go.Proofs.YtebjcbgencenbaaGreat
open Go Go.RowKit

open Go.Shelf in
def sortLays_ren : Go.Shelf.Ren := ⟨fun | 189 => 82 | 125 => 86 | 257 => 85 | 128 => 96 | 129 => 97 | 294 => 87 | 295 => 88 | 296 => 89 | 297 => 90 | 298 => 91 | 299 => 92 | 216 => 93 | 300 => 94 | 301 => 95 | 328 => 98 | 329 => 99 | 330 => 100 | 331 => 101 | 332 => 102 | 215 => 103 | 343 => 104 | n => n, fun | 28 => 24 | 3 => 3 | 46 => 105 | 0 => 0 | 51 => 114 | 53 => 116 | 4 => 4 | 183 => 108 | 182 => 107 | 131 => 111 | 5 => 5 | 9 => 9 | 218 => 117 | 222 => 121 | 228 => 123 | 229 => 124 | n => n, fun | n => n⟩
open Go.Shelf in
theorem sortLays : Go.Proofs.Lays.n189 Tryz.prog sortLays_ren := {
  mixed := by kernel_rfl
  f125 := Tryz.func86.trans (congrArg some (by kernel_rfl))
  f128 := Tryz.func96.trans (congrArg some (by kernel_rfl))
  f129 := Tryz.func97.trans (congrArg some (by kernel_rfl))
  f189 := Tryz.func82.trans (congrArg some (by kernel_rfl))
  f215 := Tryz.func103.trans (congrArg some (by kernel_rfl))
  f216 := Tryz.func93.trans (congrArg some (by kernel_rfl))
  f257 := Tryz.func85.trans (congrArg some (by kernel_rfl))
  f294 := Tryz.func87.trans (congrArg some (by kernel_rfl))
  f295 := Tryz.func88.trans (congrArg some (by kernel_rfl))
  f296 := Tryz.func89.trans (congrArg some (by kernel_rfl))
  f297 := Tryz.func90.trans (congrArg some (by kernel_rfl))
  f298 := Tryz.func91.trans (congrArg some (by kernel_rfl))
  f299 := Tryz.func92.trans (congrArg some (by kernel_rfl))
  f300 := Tryz.func94.trans (congrArg some (by kernel_rfl))
  f301 := Tryz.func95.trans (congrArg some (by kernel_rfl))
  f328 := Tryz.func98.trans (congrArg some (by kernel_rfl))
  f329 := Tryz.func99.trans (congrArg some (by kernel_rfl))
  f330 := Tryz.func100.trans (congrArg some (by kernel_rfl))
  f331 := Tryz.func101.trans (congrArg some (by kernel_rfl))
  f332 := Tryz.func102.trans (congrArg some (by kernel_rfl))
  f343 := Tryz.func104.trans (congrArg some (by kernel_rfl))
  t0 := Tryz.underlying0
  a0 := Tryz.isAgg0
  z0 := Tryz.sizeOf0
  v0 := Tryz.zeroValue0
  t3 := Tryz.underlying3
  a3 := Tryz.isAgg3
  z3 := Tryz.sizeOf3
  v3 := Tryz.zeroValue3
  t4 := Tryz.underlying4
  a4 := Tryz.isAgg4
  z4 := Tryz.sizeOf4
  v4 := Tryz.zeroValue4
  t5 := Tryz.underlying5
  a5 := Tryz.isAgg5
  z5 := Tryz.sizeOf5
  v5 := Tryz.zeroValue5
  t9 := Tryz.underlying9
  a9 := Tryz.isAgg9
  z9 := Tryz.sizeOf9
  v9 := Tryz.zeroValue9
  t28 := Tryz.underlying24
  a28 := Tryz.isAgg24
  z28 := Tryz.sizeOf24
  v28 := Tryz.zeroValue24
  t46 := Tryz.underlying105
  a46 := Tryz.isAgg105
  z46 := Tryz.sizeOf105
  v46 := Tryz.zeroValue105
  t51 := Tryz.underlying114
  a51 := Tryz.isAgg114
  z51 := Tryz.sizeOf114
  v51 := Tryz.zeroValue114
  t53 := Tryz.underlying116
  a53 := Tryz.isAgg116
  z53 := Tryz.sizeOf116
  v53 := Tryz.zeroValue116
  t131 := Tryz.underlying111
  a131 := Tryz.isAgg111
  z131 := Tryz.sizeOf111
  v131 := Tryz.zeroValue111
  t182 := Tryz.underlying107
  a182 := Tryz.isAgg107
  z182 := Tryz.sizeOf107
  v182 := Tryz.zeroValue107
  t183 := Tryz.underlying108
  a183 := Tryz.isAgg108
  z183 := Tryz.sizeOf108
  v183 := Tryz.zeroValue108
  t218 := Tryz.underlying117
  a218 := Tryz.isAgg117
  z218 := Tryz.sizeOf117
  v218 := Tryz.zeroValue117
  t222 := Tryz.underlying121
  a222 := Tryz.isAgg121
  z222 := Tryz.sizeOf121
  v222 := Tryz.zeroValue121
  t228 := Tryz.underlying123
  a228 := Tryz.isAgg123
  z228 := Tryz.sizeOf123
  v228 := Tryz.zeroValue123
  t229 := Tryz.underlying124
  a229 := Tryz.isAgg124
  z229 := Tryz.sizeOf124
  v229 := Tryz.zeroValue124 }
theorem Ints.nil_of_none {lo hi : Nat} {w : World} {a : Option Addr} {c : Nat} {xs : List Int} (h : Ints lo hi w a c xs) (ha : a.isNone = true) : xs = [] := by
  rcases Nat.eq_zero_or_pos xs.length with h0 | h0
  · exact List.eq_nil_of_length_eq_zero h0
  · have := h.isSome h0
    rw [this] at ha; cases ha
def srt (xs : List Int) : List Int := xs.mergeSort fun x y => decide (x ≤ y)
theorem own_zadd {lo : Nat} {w : World} {E : TypeId} {a : Option Addr} {n c : Nat} {ds : List Value} (h : Own lo w E 1 a (0 + n) c (([] : List Value) ++ ds)) : Own lo w E 1 a n c ds := by rw [Nat.zero_add] at h; exact h
theorem srt_perm (xs : List Int) : (srt xs).Perm xs := List.mergeSort_perm xs _
theorem srt_len (xs : List Int) : (srt xs).length = xs.length := (srt_perm xs).length_eq
theorem srt_sorted (xs : List Int) : (srt xs).Pairwise (fun x y => x ≤ y) := by
  have := List.pairwise_mergeSort (le := fun x y : Int => decide (x ≤ y)) (fun a b c h1 h2 => by simp at *; omega) (fun a b => by simp; omega) xs
  simpa [srt] using this
open Go.Sort in
theorem Sort_spec {lo : Nat} (a : Option Addr) (c : Nat) (xs : List Int) (w : World) (hO : Own lo w 3 1 a xs.length c (xs.map VI)) (hn : 0 < xs.length) (hm : xs.length ≤ 1048576) :
    Fn Tryz.prog 82 #[.slice a xs.length c] w (fun v w' => v = .tuple #[] ∧ Own lo w' 3 1 a xs.length c ((srt xs).map VI) ∧ Apd w w' a) := by
  obtain ⟨hl, hO⟩ := hO
  rcases hO with ⟨hv, h0⟩ | ⟨g, cap, cur, hv, hb, hg, h1, h2, h3, h4⟩
  · omega
  cases hv
  refine ⟨by kernel_rfl, ?_⟩
  have hH : Holds (Value.int .i64) w g 0 xs.toArray := holds_of_blockI hg (by rw [Nat.mul_one] at h4; exact h4)
  have hs := calls_of_every_depth fun D => AnyS.slices_Sort_int_in sortLays D g 0 c xs w hH (Array.getElem?_eq_some_iff.1 hg).1 (by omega)
  refine Calls.mono hs ?_
  rintro e w' ⟨rfl, n, os, rfl⟩
  refine ⟨_, rfl, rfl, ?_, ?_⟩
  · exact ownsRow_sortedI (by simp [srt]) hb hg h1 h2 h3
  · exact (Keep.of_grown (grownBy_sortedI _)).mono fun k hk => ⟨hk.1, fun he => hk.2 ⟨g, 0, none⟩ rfl (by cases he; rfl)⟩

set_option maxRecDepth 100000 in
theorem Clone_int {lo hi : Nat} (a : Option Addr) (c : Nat) (xs : List Int) (w : World) (hx : Ints lo hi w a c xs) (hhi : hi ≤ w.heap.size) (hm : xs.length ≤ 1048576) :
    Fn Tryz.prog 68 #[.slice a xs.length c] w (fun v w' => ∃ a' c', v = .slice a' xs.length c' ∧ Own w.heap.size w' 3 1 a' xs.length c' (xs.map VI) ∧ Ext w w') := by
  have hE := Ext.refl w
  refine Fn_of Tryz.func68 rfl rfl (by kernel_rfl) rfl ?_
  refine W_seq ?_
  refine W_region ?_
  refine WL_q rfl (ev_assign rfl) ?_
  refine WL_nil ?_
  refine thenE_n ?_
  refine W_seq ?_
  refine W_seq ?_
  refine W_region ?_
  refine WL_q rfl (ev_move rfl) ?_
  refine WL_q rfl (ev_eql_nil Tryz.underlying24 rfl rfl) ?_
  refine WL_nil ?_
  refine thenE_n ?_
  refine W_cond rfl (fun hg4 => ?_) (fun hg4 => ?_)
  · refine W_seq ?_
    refine W_region ?_
    refine WL_q rfl (ev_assign rfl) ?_
    refine WL_nil ?_
    refine thenE_n ?_
    refine W_ret ?_
    refine thenE_r ?_
    refine ret1 rfl rfl ?_
    obtain rfl := Ints.nil_of_none hx hg4; exact ⟨none, 0, rfl, Own.nil _ _ _ _, hE⟩
  · refine W_skip ?_
    refine thenE_n ?_
    refine W_seq ?_
    refine W_region ?_
    refine WL_m rfl (ev_lit0 Tryz.underlying24 el3) ?_
    rintro _ w5 ⟨rfl, hN5⟩
    have hz5 := hN5.size
    replace hE := hE.trans hN5.ext
    replace hx := hx.ext hN5.ext
    have hB5 := hN5.blk
    have hO5 := Own.of_new (n := 0) (sz := 1) hN5 rfl (by decide)
    refine WL_q rfl (ev_move rfl) ?_
    refine WL_m rfl (ev_append Tryz.underlying24 el3 rfl (by decide) rfl rfl hO5 hx.sat (by simp) (by simp [Value.oneCell']) (by omega) (by unfold maxLen; omega) (by omega)) ?_
    rintro _ w7 ⟨a7, c7, rfl, hO7, hK7, hQ7⟩
    have hz7 := hK7.size
    replace hE := hE.app hK7 (fun q hq => (hO5.block q hq).1)
    replace hx := hx.app hK7 (hO5) (by omega)
    replace hO5 := hO7
    refine WL_q rfl (ev_assign rfl) ?_
    refine WL_nil ?_
    refine thenE_n ?_
    refine W_ret ?_
    refine ret1 rfl rfl ?_
    exact ⟨a7, c7, by rw [Nat.zero_add], own_zadd hO5, hE⟩

end Go.Proofs.YtebjcbgencenbaaGreat
