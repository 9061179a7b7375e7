/- slices.Sort at []int, off the shelf, in the words of the contracts here; slices.Clone at []int. -/
import Derived.Shelf.Sort.AssemblyIn
import Derived.Sort.EveryDepth
import Derived.Sort.OwnSortedInts
import Derived.Test.YtjnkkadbfigmpaaBasic
namespace Go.Proofs.Ytjnkkadbfigmpaa
open Go Go.RowKit

open Go.Shelf in
def sortLays_ren : Go.Shelf.Ren := ⟨fun | 189 => 114 | 125 => 134 | 257 => 133 | 128 => 149 | 129 => 150 | 294 => 140 | 295 => 141 | 296 => 142 | 297 => 143 | 298 => 144 | 299 => 145 | 216 => 146 | 300 => 147 | 301 => 148 | 328 => 151 | 329 => 152 | 330 => 153 | 331 => 154 | 332 => 155 | 215 => 156 | 343 => 157 | n => n, fun | 28 => 23 | 3 => 3 | 46 => 126 | 0 => 0 | 51 => 136 | 53 => 139 | 4 => 4 | 183 => 145 | 182 => 144 | 131 => 55 | 5 => 5 | 9 => 9 | 218 => 151 | 222 => 155 | 228 => 157 | 229 => 158 | n => n, fun | n => n⟩
open Go.Shelf in
theorem sortLays : Go.Proofs.Lays.n189 Try.prog sortLays_ren := {
  mixed := by kernel_rfl
  f125 := Try.func134.trans (congrArg some (by kernel_rfl))
  f128 := Try.func149.trans (congrArg some (by kernel_rfl))
  f129 := Try.func150.trans (congrArg some (by kernel_rfl))
  f189 := Try.func114.trans (congrArg some (by kernel_rfl))
  f215 := Try.func156.trans (congrArg some (by kernel_rfl))
  f216 := Try.func146.trans (congrArg some (by kernel_rfl))
  f257 := Try.func133.trans (congrArg some (by kernel_rfl))
  f294 := Try.func140.trans (congrArg some (by kernel_rfl))
  f295 := Try.func141.trans (congrArg some (by kernel_rfl))
  f296 := Try.func142.trans (congrArg some (by kernel_rfl))
  f297 := Try.func143.trans (congrArg some (by kernel_rfl))
  f298 := Try.func144.trans (congrArg some (by kernel_rfl))
  f299 := Try.func145.trans (congrArg some (by kernel_rfl))
  f300 := Try.func147.trans (congrArg some (by kernel_rfl))
  f301 := Try.func148.trans (congrArg some (by kernel_rfl))
  f328 := Try.func151.trans (congrArg some (by kernel_rfl))
  f329 := Try.func152.trans (congrArg some (by kernel_rfl))
  f330 := Try.func153.trans (congrArg some (by kernel_rfl))
  f331 := Try.func154.trans (congrArg some (by kernel_rfl))
  f332 := Try.func155.trans (congrArg some (by kernel_rfl))
  f343 := Try.func157.trans (congrArg some (by kernel_rfl))
  t0 := Try.underlying0
  a0 := Try.isAgg0
  z0 := Try.sizeOf0
  v0 := Try.zeroValue0
  t3 := Try.underlying3
  a3 := Try.isAgg3
  z3 := Try.sizeOf3
  v3 := Try.zeroValue3
  t4 := Try.underlying4
  a4 := Try.isAgg4
  z4 := Try.sizeOf4
  v4 := Try.zeroValue4
  t5 := Try.underlying5
  a5 := Try.isAgg5
  z5 := Try.sizeOf5
  v5 := Try.zeroValue5
  t9 := Try.underlying9
  a9 := Try.isAgg9
  z9 := Try.sizeOf9
  v9 := Try.zeroValue9
  t28 := Try.underlying23
  a28 := Try.isAgg23
  z28 := Try.sizeOf23
  v28 := Try.zeroValue23
  t46 := Try.underlying126
  a46 := Try.isAgg126
  z46 := Try.sizeOf126
  v46 := Try.zeroValue126
  t51 := Try.underlying136
  a51 := Try.isAgg136
  z51 := Try.sizeOf136
  v51 := Try.zeroValue136
  t53 := Try.underlying139
  a53 := Try.isAgg139
  z53 := Try.sizeOf139
  v53 := Try.zeroValue139
  t131 := Try.underlying55
  a131 := Try.isAgg55
  z131 := Try.sizeOf55
  v131 := Try.zeroValue55
  t182 := Try.underlying144
  a182 := Try.isAgg144
  z182 := Try.sizeOf144
  v182 := Try.zeroValue144
  t183 := Try.underlying145
  a183 := Try.isAgg145
  z183 := Try.sizeOf145
  v183 := Try.zeroValue145
  t218 := Try.underlying151
  a218 := Try.isAgg151
  z218 := Try.sizeOf151
  v218 := Try.zeroValue151
  t222 := Try.underlying155
  a222 := Try.isAgg155
  z222 := Try.sizeOf155
  v222 := Try.zeroValue155
  t228 := Try.underlying157
  a228 := Try.isAgg157
  z228 := Try.sizeOf157
  v228 := Try.zeroValue157
  t229 := Try.underlying158
  a229 := Try.isAgg158
  z229 := Try.sizeOf158
  v229 := Try.zeroValue158 }
theorem Ints.nil_of_none {lo hi : Nat} {w : World} {a : Option Addr} {c : Nat} {xs : List Int} (h : Ints lo hi w a c xs) (ha : a.isNone = true) : xs = [] := by
  rcases Nat.eq_zero_or_pos xs.length with h0 | h0
  · exact List.eq_nil_of_length_eq_zero h0
  · have := h.isSome h0
    rw [this] at ha; cases ha
def srt (xs : List Int) : List Int := xs.mergeSort fun x y => decide (x ≤ y)
theorem own_zadd {lo : Nat} {w : World} {E : TypeId} {a : Option Addr} {n c : Nat} {ds : List Value} (h : Own lo w E 1 a (0 + n) c (([] : List Value) ++ ds)) : Own lo w E 1 a n c ds := by rw [Nat.zero_add] at h; exact h
theorem srt_perm (xs : List Int) : (srt xs).Perm xs := List.mergeSort_perm xs _
theorem srt_len (xs : List Int) : (srt xs).length = xs.length := (srt_perm xs).length_eq
theorem srt_sorted (xs : List Int) : (srt xs).Pairwise (fun x y => x ≤ y) := by
  have := List.pairwise_mergeSort (le := fun x y : Int => decide (x ≤ y)) (fun a b c h1 h2 => by simp at *; omega) (fun a b => by simp; omega) xs
  simpa [srt] using this
open Go.Sort in
theorem Sort_spec {lo : Nat} (a : Option Addr) (c : Nat) (xs : List Int) (w : World) (hO : Own lo w 3 1 a xs.length c (xs.map VI)) (hn : 0 < xs.length) (hm : xs.length ≤ 1048576) :
    Fn Try.prog 114 #[.slice a xs.length c] w (fun v w' => v = .tuple #[] ∧ Own lo w' 3 1 a xs.length c ((srt xs).map VI) ∧ Apd w w' a) := by
  obtain ⟨hl, hO⟩ := hO
  rcases hO with ⟨hv, h0⟩ | ⟨g, cap, cur, hv, hb, hg, h1, h2, h3, h4⟩
  · omega
  cases hv
  refine ⟨by kernel_rfl, ?_⟩
  have hH : Holds (Value.int .i64) w g 0 xs.toArray := holds_of_blockI hg (by rw [Nat.mul_one] at h4; exact h4)
  have hs := calls_of_every_depth fun D => AnyS.slices_Sort_int_in sortLays D g 0 c xs w hH (Array.getElem?_eq_some_iff.1 hg).1 (by omega)
  refine Calls.mono hs ?_
  rintro e w' ⟨rfl, n, os, rfl⟩
  refine ⟨_, rfl, rfl, ?_, ?_⟩
  · exact ownsRow_sortedI (by simp [srt]) hb hg h1 h2 h3
  · exact (Keep.of_grown (grownBy_sortedI _)).mono fun k hk => ⟨hk.1, fun he => hk.2 ⟨g, 0, none⟩ rfl (by cases he; rfl)⟩

set_option maxRecDepth 100000 in
theorem Clone_int {lo hi : Nat} (a : Option Addr) (c : Nat) (xs : List Int) (w : World) (hx : Ints lo hi w a c xs) (hhi : hi ≤ w.heap.size) (hm : xs.length ≤ 1048576) :
    Fn Try.prog 62 #[.slice a xs.length c] w (fun v w' => ∃ a' c', v = .slice a' xs.length c' ∧ Own w.heap.size w' 3 1 a' xs.length c' (xs.map VI) ∧ Ext w w') := by
  have hE := Ext.refl w
  refine Fn_of Try.func62 rfl rfl (by kernel_rfl) rfl ?_
  refine W_seq ?_
  refine W_region ?_
  refine WL_q rfl (ev_assign rfl) ?_
  refine WL_nil ?_
  refine thenE_n ?_
  refine W_seq ?_
  refine W_seq ?_
  refine W_region ?_
  refine WL_q rfl (ev_move rfl) ?_
  refine WL_q rfl (ev_eql_nil Try.underlying23 rfl rfl) ?_
  refine WL_nil ?_
  refine thenE_n ?_
  refine W_cond rfl (fun hg4 => ?_) (fun hg4 => ?_)
  · refine W_seq ?_
    refine W_region ?_
    refine WL_q rfl (ev_assign rfl) ?_
    refine WL_nil ?_
    refine thenE_n ?_
    refine W_ret ?_
    refine thenE_r ?_
    refine ret1 rfl rfl ?_
    obtain rfl := Ints.nil_of_none hx hg4; exact ⟨none, 0, rfl, Own.nil _ _ _ _, hE⟩
  · refine W_skip ?_
    refine thenE_n ?_
    refine W_seq ?_
    refine W_region ?_
    refine WL_m rfl (ev_lit0 Try.underlying23 el3) ?_
    rintro _ w5 ⟨rfl, hN5⟩
    have hz5 := hN5.size
    replace hE := hE.trans hN5.ext
    replace hx := hx.ext hN5.ext
    have hB5 := hN5.blk
    have hO5 := Own.of_new (n := 0) (sz := 1) hN5 rfl (by decide)
    refine WL_q rfl (ev_move rfl) ?_
    refine WL_m rfl (ev_append Try.underlying23 el3 rfl (by decide) rfl rfl hO5 hx.sat (by simp) (by simp [Value.oneCell']) (by omega) (by unfold maxLen; omega) (by omega)) ?_
    rintro _ w7 ⟨a7, c7, rfl, hO7, hK7, hQ7⟩
    have hz7 := hK7.size
    replace hE := hE.app hK7 (fun q hq => (hO5.block q hq).1)
    replace hx := hx.app hK7 (hO5) (by omega)
    replace hO5 := hO7
    refine WL_q rfl (ev_assign rfl) ?_
    refine WL_nil ?_
    refine thenE_n ?_
    refine W_ret ?_
    refine ret1 rfl rfl ?_
    exact ⟨a7, c7, by rw [Nat.zero_add], own_zadd hO5, hE⟩

end Go.Proofs.Ytjnkkadbfigmpaa
