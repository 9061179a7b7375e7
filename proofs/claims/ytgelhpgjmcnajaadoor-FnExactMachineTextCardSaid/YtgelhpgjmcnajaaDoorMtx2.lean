/- Contracts of what writes the text of a machine. -/
import Derived.Shelf.Strings.OnBuilder
import Derived.Shelf.Strconv.Itoa3
import Derived.Test.YtgelhpgjmcnajaaDoorMtx
import Derived.Test.YtgelhpgjmcnajaaDoorDrawY
import Derived.Test.YtgelhpgjmcnajaaDoorEdges
namespace Go.Proofs.YtgelhpgjmcnajaaDoor
open Go Go.RowKit

open Go.Shelf in
def itoaLays_ren : Go.Shelf.Ren := ⟨fun | 171 => 32 | 243 => 40 | 246 => 44 | 283 => 47 | 284 => 48 | 285 => 49 | 286 => 50 | 129 => 52 | 317 => 51 | 318 => 53 | 319 => 54 | 320 => 55 | 337 => 56 | 338 => 57 | n => n, fun | 3 => 3 | 9 => 9 | 2 => 2 | 4 => 4 | 171 => 78 | 0 => 0 | 53 => 79 | 37 => 61 | 5 => 5 | 173 => 82 | 212 => 86 | 51 => 87 | 20 => 20 | 213 => 88 | 46 => 89 | 232 => 92 | 233 => 93 | n => n, fun | 17 => 1 | 18 => 2 | 19 => 3 | n => n⟩
open Go.Shelf in
theorem itoaLays : Go.Proofs.Lays.n171 Tryd.prog itoaLays_ren := {
  mixed := by kernel_rfl
  f129 := Tryd.func52.trans (congrArg some (by kernel_rfl))
  f171 := Tryd.func32.trans (congrArg some (by kernel_rfl))
  f243 := Tryd.func40.trans (congrArg some (by kernel_rfl))
  f246 := Tryd.func44.trans (congrArg some (by kernel_rfl))
  f283 := Tryd.func47.trans (congrArg some (by kernel_rfl))
  f284 := Tryd.func48.trans (congrArg some (by kernel_rfl))
  f285 := Tryd.func49.trans (congrArg some (by kernel_rfl))
  f286 := Tryd.func50.trans (congrArg some (by kernel_rfl))
  f317 := Tryd.func51.trans (congrArg some (by kernel_rfl))
  f318 := Tryd.func53.trans (congrArg some (by kernel_rfl))
  f319 := Tryd.func54.trans (congrArg some (by kernel_rfl))
  f320 := Tryd.func55.trans (congrArg some (by kernel_rfl))
  f337 := Tryd.func56.trans (congrArg some (by kernel_rfl))
  f338 := Tryd.func57.trans (congrArg some (by kernel_rfl))
  t0 := Tryd.underlying0
  a0 := Tryd.isAgg0
  z0 := Tryd.sizeOf0
  v0 := Tryd.zeroValue0
  t2 := Tryd.underlying2
  a2 := Tryd.isAgg2
  z2 := Tryd.sizeOf2
  v2 := Tryd.zeroValue2
  t3 := Tryd.underlying3
  a3 := Tryd.isAgg3
  z3 := Tryd.sizeOf3
  v3 := Tryd.zeroValue3
  t4 := Tryd.underlying4
  a4 := Tryd.isAgg4
  z4 := Tryd.sizeOf4
  v4 := Tryd.zeroValue4
  t5 := Tryd.underlying5
  a5 := Tryd.isAgg5
  z5 := Tryd.sizeOf5
  v5 := Tryd.zeroValue5
  t9 := Tryd.underlying9
  a9 := Tryd.isAgg9
  z9 := Tryd.sizeOf9
  v9 := Tryd.zeroValue9
  t20 := Tryd.underlying20
  a20 := Tryd.isAgg20
  z20 := Tryd.sizeOf20
  v20 := Tryd.zeroValue20
  t37 := Tryd.underlying61
  a37 := Tryd.isAgg61
  z37 := Tryd.sizeOf61
  v37 := Tryd.zeroValue61
  t46 := Tryd.underlying89
  a46 := Tryd.isAgg89
  z46 := Tryd.sizeOf89
  v46 := Tryd.zeroValue89
  t51 := Tryd.underlying87
  a51 := Tryd.isAgg87
  z51 := Tryd.sizeOf87
  v51 := Tryd.zeroValue87
  t53 := Tryd.underlying79
  a53 := Tryd.isAgg79
  z53 := Tryd.sizeOf79
  v53 := Tryd.zeroValue79
  t171 := Tryd.underlying78
  a171 := Tryd.isAgg78
  z171 := Tryd.sizeOf78
  v171 := Tryd.zeroValue78
  t173 := Tryd.underlying82
  a173 := Tryd.isAgg82
  z173 := Tryd.sizeOf82
  v173 := Tryd.zeroValue82
  t212 := Tryd.underlying86
  a212 := Tryd.isAgg86
  z212 := Tryd.sizeOf86
  v212 := Tryd.zeroValue86
  t213 := Tryd.underlying88
  a213 := Tryd.isAgg88
  z213 := Tryd.sizeOf88
  t232 := Tryd.underlying92
  a232 := Tryd.isAgg92
  z232 := Tryd.sizeOf92
  v232 := Tryd.zeroValue92
  t233 := Tryd.underlying93
  a233 := Tryd.isAgg93
  z233 := Tryd.sizeOf93
  v233 := Tryd.zeroValue93
  g17 := by kernel_rfl
  g18 := by kernel_rfl
  g19 := by kernel_rfl }
open Go.Shelf in
def joinLays_ren : Go.Shelf.Ren := ⟨fun | 156 => 19 | 165 => 33 | 166 => 34 | 169 => 35 | 240 => 41 | 241 => 42 | 276 => 45 | 277 => 46 | n => n, fun | 31 => 45 | 9 => 9 | 3 => 3 | 4 => 4 | 0 => 0 | 20 => 20 | 72 => 63 | 76 => 67 | 70 => 60 | 37 => 61 | 75 => 66 | 127 => 72 | 164 => 75 | 5 => 5 | 80 => 69 | n => n, fun | n => n⟩
open Go.Shelf in
theorem joinLays : Go.Proofs.Lays.n156 Tryd.prog joinLays_ren := {
  mixed := by kernel_rfl
  f156 := Tryd.func19.trans (congrArg some (by kernel_rfl))
  f165 := Tryd.func33.trans (congrArg some (by kernel_rfl))
  f166 := Tryd.func34.trans (congrArg some (by kernel_rfl))
  f169 := Tryd.func35.trans (congrArg some (by kernel_rfl))
  f240 := Tryd.func41.trans (congrArg some (by kernel_rfl))
  f241 := Tryd.func42.trans (congrArg some (by kernel_rfl))
  f276 := Tryd.func45.trans (congrArg some (by kernel_rfl))
  f277 := Tryd.func46.trans (congrArg some (by kernel_rfl))
  t0 := Tryd.underlying0
  a0 := Tryd.isAgg0
  z0 := Tryd.sizeOf0
  v0 := Tryd.zeroValue0
  t3 := Tryd.underlying3
  a3 := Tryd.isAgg3
  z3 := Tryd.sizeOf3
  v3 := Tryd.zeroValue3
  t4 := Tryd.underlying4
  a4 := Tryd.isAgg4
  z4 := Tryd.sizeOf4
  v4 := Tryd.zeroValue4
  t9 := Tryd.underlying9
  a9 := Tryd.isAgg9
  z9 := Tryd.sizeOf9
  v9 := Tryd.zeroValue9
  t20 := Tryd.underlying20
  a20 := Tryd.isAgg20
  z20 := Tryd.sizeOf20
  v20 := Tryd.zeroValue20
  t31 := Tryd.underlying45
  a31 := Tryd.isAgg45
  z31 := Tryd.sizeOf45
  v31 := Tryd.zeroValue45
  t37 := Tryd.underlying61
  a37 := Tryd.isAgg61
  z37 := Tryd.sizeOf61
  v37 := Tryd.zeroValue61
  t70 := Tryd.underlying60
  a70 := Tryd.isAgg60
  z70 := Tryd.sizeOf60
  v70 := Tryd.zeroValue60
  t72 := Tryd.underlying63
  a72 := Tryd.isAgg63
  z72 := Tryd.sizeOf63
  v72 := Tryd.zeroValue63
  t75 := Tryd.underlying66
  a75 := Tryd.isAgg66
  z75 := Tryd.sizeOf66
  v75 := Tryd.zeroValue66
  t76 := Tryd.underlying67
  a76 := Tryd.isAgg67
  z76 := Tryd.sizeOf67
  v76 := Tryd.zeroValue67
  t127 := Tryd.underlying72
  a127 := Tryd.isAgg72
  z127 := Tryd.sizeOf72
  v127 := Tryd.zeroValue72
  t164 := Tryd.underlying75
  a164 := Tryd.isAgg75
  z164 := Tryd.sizeOf75
  v164 := Tryd.zeroValue75 }
theorem joinExtra : Builder.Extra Tryd.prog joinLays_ren := {
  sizeBuilder := by kernel_rfl
  liesBuilder := by kernel_rfl
  t5 := Tryd.underlying5
  a5 := Tryd.isAgg5
  z5 := Tryd.sizeOf5
  v5 := Tryd.zeroValue5
  infoByte := by kernel_rfl
  cellsByte := by kernel_rfl
  sizeByte := by kernel_rfl
  neB5 := by decide }
theorem Itoa_spec (n : Int) (h : 0 ≤ n ∧ n < 100) (w : World) : Fn Tryd.prog 32 #[VI n] w (fun v w' => v = .string (bs (Lib.decDigits n.toNat)) ∧ w = w') := by
  obtain ⟨k, rfl⟩ : ∃ k : Nat, n = (k : Int) := ⟨n.toNat, by omega⟩
  refine ⟨by kernel_rfl, (Any.strconv_Itoa_small itoaLays k (by omega) w).mono ?_⟩
  rintro e w' ⟨rfl, rfl⟩
  exact ⟨_, rfl, rfl, rfl⟩
theorem Ext.of_below {w w' : World} (h : Below w.heap.size w w') : Ext w w' := ⟨h.os, h.tape, h.output, h.size, h.block⟩
theorem Join_spec {lo : Nat} {T : TypeId} (a : Option Addr) (c : Nat) (ls : List (List UInt8)) (w : World) (hO : Own lo w T 1 a ls.length c (ls.map vS)) (hn : 0 < ls.length) (hs : Sht 92 ls) : Fn Tryd.prog 19 #[.slice a ls.length c, .string (bs [10])] w (fun v w' => v = .string (bs (Lib.join ls [10])) ∧ Ext w w') := by
  obtain ⟨g, rest, rfl, _, hB, h1, h2, h3, h4⟩ := hO.blk hn
  have e : (ls.map bs).map (·.data.toList) = ls := by
    rw [List.map_map]
    conv => rhs; rw [← List.map_id ls]
    exact List.map_congr_left fun l _ => bs_list l
  have hj := Any.strings_Join joinLays joinExtra g 0 c (ls.map bs) (bs [10]) w (fun j x hx => by
    rw [Nat.zero_add]
    refine hB.cell ?_
    rw [List.getElem?_append_left (by have := (List.getElem?_eq_some_iff.1 hx).1; simpa using this)]
    rw [List.getElem?_map] at hx ⊢
    cases hl : ls[j]? with
    | none => rw [hl] at hx; cases hx
    | some l => rw [hl] at hx; cases hx; rfl) hB.lt (by have := hs.2; simp; omega) (by simpa using h1) (by rw [e, bs_list]; exact join_len hs)
  rw [e, bs_list, List.length_map] at hj
  refine ⟨by kernel_rfl, hj.mono ?_⟩
  rintro e w' ⟨rfl, hb⟩
  exact ⟨_, rfl, rfl, Ext.of_below hb⟩
theorem litI {w : World} {b : Nat} {T : TypeId} {xs : List Int} (n : Nat) (h : Blk w b T (xs.map VI)) (hn : xs.length ≤ n) : Ints b (b + 1) w (some ⟨b, 0, none⟩) n xs := (FInts.of_blk h (Nat.le_refl _) (Nat.lt_succ_self _) hn).is

set_option maxRecDepth 100000 in
theorem wordsLine_spec {lo hi : Nat} (wd : List UInt8) (a : Option Addr) (c : Nat) (xs : List Int) (w : World) (hx : Ints lo hi w a c xs) (hr : (∀ x ∈ xs, -1 ≤ x ∧ x < 100) ∧ xs.length ≤ 10) (hw : wd.length ≤ 1000) :
    Fn Tryd.prog 18 #[.string (bs wd), .slice a xs.length c] w (fun v w' => v = .string (bs (lineW wd xs)) ∧ Ext w w') := by
  have hr2 := hr.2
  have hE := Ext.refl w
  refine Fn_of Tryd.func18 rfl rfl (by kernel_rfl) rfl ?_
  refine W_seq ?_
  refine W_region ?_
  refine WL_q rfl (ev_assign rfl) ?_
  refine WL_nil ?_
  refine thenE_n ?_
  refine W_seq ?_
  refine W_seq ?_
  refine W_region ?_
  refine WL_q rfl (ev_move rfl) ?_
  refine WL_q rfl (ev_len Tryd.underlying24 rfl) ?_
  refine WL_q rfl (ev_move rfl) ?_
  refine WL_nil ?_
  refine thenE_n ?_
  refine W_block ?_
  refine W_loopC (G := Nat) [(7, _), (8, _)] ((Subs.c rfl (Subs.c rfl Subs.n))) (fun i => [(0, .string (bs (lineW wd (xs.take i)))), (9, VI (i : Int))]) (fun i w' => Ext w w' ∧ i ≤ xs.length) (fun i => xs.length - i) 0 ((Subs.c rfl (Subs.c (lkI rfl (by omega)) Subs.n))) (⟨Ext.refl _, Nat.zero_le _⟩) ?_
  rintro i wL0 ⟨hRL0, hi'⟩
  have hzL0 := hRL0.size
  replace hE := hE.trans hRL0
  replace hx := hx.ext hRL0
  have hwl := lineW_len (wd := wd) (xs := xs.take i) (fun x hx => (hr.1 x (List.mem_of_mem_take hx)).2)
  have htk : (xs.take i).length ≤ i := by rw [List.length_take]; omega
  refine W_seq ?_
  refine W_region ?_
  refine WL_q rfl (ev_lss rfl rfl) ?_
  refine WL_nil ?_
  refine thenE_n ?_
  refine W_seq ?_
  refine W_cond rfl (fun hg10 => ?_) (fun hg10 => ?_)
  · have hp10 := of_decide_eq_true hg10
    refine W_skip ?_
    refine thenE_n ?_
    refine W_seq ?_
    refine W_block ?_
    refine W_seq ?_
    refine W_region ?_
    have hlt : i < xs.length := by omega
    have hxi := hr.1 _ (List.getElem_mem hlt)
    have hdl := dec_len (n := xs[i].toNat) (by omega)
    refine WL_q rfl (ev_indexAddr Tryd.underlying24 sz3 rfl rfl (hx.isSome (by omega)) (by omega) (by omega)) ?_
    refine WL_q rfl (ev_load one3 rfl (hx.cell (i := i) (by omega))) ?_
    refine WL_q rfl (ev_assign rfl) ?_
    refine WL_nil ?_
    refine thenE_n ?_
    refine W_seq ?_
    refine W_region ?_
    refine WL_q rfl (ev_move rfl) ?_
    refine WL_q rfl (ev_eql rfl rfl) ?_
    refine WL_nil ?_
    refine thenE_n ?_
    refine W_cond rfl (fun hg14 => ?_) (fun hg14 => ?_)
    · have hp14 := of_decide_eq_true hg14
      refine W_region ?_
      refine WL_q rfl (ev_move rfl) ?_
      refine WL_q rfl (ev_addS (b := [32, 42]) rfl rfl (by (try simp only [List.length_append, List.length_cons, List.length_nil]); omega)) ?_
      refine WL_q rfl (ev_assign rfl) ?_
      refine WL_nil ?_
      refine blockE_n ?_
      refine thenE_n ?_
      refine W_region ?_
      refine WL_q rfl (ev_add rfl rfl (by omega)) ?_
      refine WL_q rfl (ev_move rfl) ?_
      refine WL_nil ?_
      refine thenE_n ?_
      exact ⟨i + 1, (Subs.c rfl (Subs.c rfl Subs.n)), (Subs.c (lkV rfl (line_neg hlt (by omega))) (Subs.c (lkI rfl (by omega)) Subs.n)), ⟨hRL0, by omega⟩, by first | omega | (dsimp only; omega)⟩
    · have hp14 := of_decide_eq_false hg14
      refine W_region ?_
      refine WL_q rfl (ev_move rfl) ?_
      refine WL_q rfl (ev_move rfl) ?_
      refine WL_m rfl (ev_call rfl (Itoa_spec _ (by omega) _)) ?_
      rintro _ _ ⟨rfl, rfl⟩
      refine WL_q rfl (ev_addS (a := [32]) rfl rfl (by (try simp only [List.length_append, List.length_cons, List.length_nil]); omega)) ?_
      refine WL_q rfl (ev_addS rfl rfl (by (try simp only [List.length_append, List.length_cons, List.length_nil]); omega)) ?_
      refine WL_q rfl (ev_assign rfl) ?_
      refine WL_nil ?_
      refine blockE_n ?_
      refine thenE_n ?_
      refine W_region ?_
      refine WL_q rfl (ev_add rfl rfl (by omega)) ?_
      refine WL_q rfl (ev_move rfl) ?_
      refine WL_nil ?_
      refine thenE_n ?_
      exact ⟨i + 1, (Subs.c rfl (Subs.c rfl Subs.n)), (Subs.c (lkV rfl (line_pos hlt (by omega))) (Subs.c (lkI rfl (by omega)) Subs.n)), ⟨hRL0, by omega⟩, by first | omega | (dsimp only; omega)⟩
  · have hp10 := of_decide_eq_false hg10
    refine W_exit ?_
    refine thenE_x ?_
    refine thenE_x ?_
    refine blockE_hit ?_
    refine thenE_n ?_
    refine W_seq ?_
    refine W_region ?_
    refine WL_q rfl (ev_move rfl) ?_
    refine WL_q rfl (ev_assign rfl) ?_
    refine WL_nil ?_
    refine thenE_n ?_
    refine W_ret ?_
    refine ret1 rfl rfl ?_
    exact ⟨by rw [lineW_full (by omega)], hE⟩

theorem num_one {n : Int} (h : 0 ≤ n ∧ n < 10) : [UInt8.ofNat (48 + n).toNat] = Lib.decDigits n.toNat := by
  rw [dec1 (by omega)]; congr 2; omega
theorem num_two {n : Int} (h : 10 ≤ n) : Lib.decDigits (n / 10).toNat ++ [UInt8.ofNat (48 + n % 10).toNat] = Lib.decDigits n.toNat := by
  rw [dec2 (n := n.toNat) (by omega)]
  congr 1
  · congr 1; omega
  · congr 2; omega

set_option maxRecDepth 100000 in
theorem l1Num_1 (n : Int) (w : World) (hn : 0 ≤ n ∧ n < 10) :
    Fn Tryd.prog 37 #[VI n] w (fun v w' => v = .string (bs (Lib.decDigits n.toNat)) ∧ Ext w w') := by
  have hE := Ext.refl w
  refine Fn_of Tryd.func37 rfl rfl (by kernel_rfl) rfl ?_
  refine W_seq ?_
  refine W_region ?_
  refine WL_q rfl (ev_assign rfl) ?_
  refine WL_nil ?_
  refine thenE_n ?_
  refine W_seq ?_
  refine W_seq ?_
  refine W_region ?_
  refine WL_q rfl (ev_move rfl) ?_
  refine WL_q rfl (ev_lss rfl rfl) ?_
  refine WL_nil ?_
  refine thenE_n ?_
  refine W_cond rfl (fun hg4 => ?_) (fun hg4 => ?_)
  · have hp4 := of_decide_eq_true hg4
    refine W_seq ?_
    refine W_region ?_
    refine WL_q rfl (ev_move rfl) ?_
    refine WL_q rfl (ev_add rfl rfl (by omega)) ?_
    refine WL_q rfl (ev_conv (by kernel_rfl) Tryd.underlying5 (by kernel_rfl) rfl (wrap_b (by omega))) ?_
    refine WL_m rfl (ev_lit1 Tryd.underlying61 el5 (by decide) (by decide) rfl rfl) ?_
    rintro _ w8 ⟨rfl, hN8⟩
    have hz8 := hN8.size
    replace hE := hE.trans hN8.ext
    have hB8 := hN8.blk
    refine WL_q rfl (ev_convB1 Tryd.underlying61 (by kernel_rfl) (by kernel_rfl) rfl hB8) ?_
    refine WL_q rfl (ev_assign rfl) ?_
    refine WL_nil ?_
    refine thenE_n ?_
    refine W_ret ?_
    refine thenE_r ?_
    refine ret1 rfl rfl ?_
    exact ⟨by rw [num_one hn], hE⟩
  · have hp4 := of_decide_eq_false hg4
    exfalso; omega

set_option maxRecDepth 100000 in
theorem l1Num_2 (n : Int) (w : World) (hn : 10 ≤ n ∧ n < 100) :
    Fn Tryd.prog 37 #[VI n] w (fun v w' => v = .string (bs (Lib.decDigits n.toNat)) ∧ Ext w w') := by
  have hE := Ext.refl w
  refine Fn_of Tryd.func37 rfl rfl (by kernel_rfl) rfl ?_
  refine W_seq ?_
  refine W_region ?_
  refine WL_q rfl (ev_assign rfl) ?_
  refine WL_nil ?_
  refine thenE_n ?_
  refine W_seq ?_
  refine W_seq ?_
  refine W_region ?_
  refine WL_q rfl (ev_move rfl) ?_
  refine WL_q rfl (ev_lss rfl rfl) ?_
  refine WL_nil ?_
  refine thenE_n ?_
  refine W_cond rfl (fun hg4 => ?_) (fun hg4 => ?_)
  · have hp4 := of_decide_eq_true hg4
    exfalso; omega
  · have hp4 := of_decide_eq_false hg4
    refine W_skip ?_
    refine thenE_n ?_
    refine W_seq ?_
    refine W_drawY (X := Unit) (fun x => [(2, .string (bs (Lib.decDigits n.toNat)))]) (fun x w' => Ext w w') 99 0 0 0 0 0 0 0 0 (.h 0 (.h 1 (.h 3 (.h 4 (.h 5 (.h 6 (.b 2 (.a 7 (.h 8 (.h 9 (.h 10 .done)))) 7 (.h 8 (.a 2 (.h 9 (.h 10 .done))))))))))) mixed (by kernel_rfl) rfl (by kernel_rfl) ?_ ?_
    · intro wd3 hEd3 hzd3
      replace hE := hE.trans hEd3
      have hdl := dec_len (n := (n / 10).toNat) (by omega)
      have hSd3 := (Rg.refl : Rg 0 0 0 0 wd3 wd3)
      have hUd3 := (Rg.refl : Rg 0 0 0 0 wd3 wd3)
      refine PY_h rfl rfl (fun wq hq => ev_move rfl) ?_
      refine PY_h rfl rfl (fun wq hq => ev_quo rfl rfl (by omega) (by omega) (by omega)) ?_
      refine PY_h rfl rfl (fun wq hq => ev_move rfl) ?_
      refine PY_h rfl rfl (fun wq hq => ev_rem rfl rfl (by omega) (by omega)) ?_
      refine PY_h rfl rfl (fun wq hq => ev_add rfl rfl (by omega)) ?_
      refine PY_h rfl rfl (fun wq hq => ev_conv (by kernel_rfl) Tryd.underlying5 (by kernel_rfl) rfl (wrap_b (by omega))) ?_
      refine PY_b ?_ ?_
      · refine PB_m 0 0 0 0 0 0 0 0 rfl rfl (ev_call rfl (l1Num_1 _ _ (by omega))) ?_
        rintro _ w12 ⟨rfl, hE12⟩
        have hz12 := hE12.size
        replace hE := hE.trans hE12
        replace hSd3 := hSd3.trans hE12
        replace hUd3 := hUd3.trans hE12
        refine ⟨fun _ hx => ⟨hSd3.rg hx (by omega), trivial⟩, fun _ hx => ⟨hUd3.rg hx (by omega), trivial⟩, ?_⟩
        have hSd3 := (Rg.refl : Rg 0 0 0 0 w12 w12)
        have hUd3 := (Rg.refl : Rg 0 0 0 0 w12 w12)
        refine PY_a ?_
        refine PB_m 0 0 0 0 0 0 0 0 rfl rfl (ev_lit1 Tryd.underlying61 el5 (by decide) (by decide) rfl rfl) ?_
        rintro _ w17 ⟨rfl, hN17⟩
        have hz17 := hN17.size
        replace hE := hE.trans hN17.ext
        replace hSd3 := hSd3.trans hN17.ext
        replace hUd3 := hUd3.trans hN17.ext
        have hB17 := hN17.blk
        refine ⟨fun _ hx => ⟨hSd3.rg hx (by omega), trivial⟩, fun _ hx => ⟨hUd3.rg hx (by omega), trivial⟩, ?_⟩
        have hSd3 := (Rg.refl : Rg 0 0 0 0 w17 w17)
        have hUd3 := (Rg.refl : Rg 0 0 0 0 w17 w17)
        refine PY_h rfl rfl (fun wq hq => ev_convB1 Tryd.underlying61 (by kernel_rfl) (by kernel_rfl) rfl (hB17.rg hq.1 (by omega))) ?_
        refine PY_h rfl rfl (fun wq hq => ev_addS rfl rfl (by (try simp only [List.length_append, List.length_cons, List.length_nil]); omega)) ?_
        refine PY_h rfl rfl (fun wq hq => ev_assign rfl) ?_
        exact PY_nil 11 () rfl ⟨lkV rfl (congrArg (fun l => Value.string (bs l)) (num_two hn.1)), trivial⟩ rfl hE
      · refine PB_m 0 0 0 0 0 0 0 0 rfl rfl (ev_lit1 Tryd.underlying61 el5 (by decide) (by decide) rfl rfl) ?_
        rintro _ w17 ⟨rfl, hN17⟩
        have hz17 := hN17.size
        replace hE := hE.trans hN17.ext
        replace hSd3 := hSd3.trans hN17.ext
        replace hUd3 := hUd3.trans hN17.ext
        have hB17 := hN17.blk
        refine ⟨fun _ hx => ⟨hSd3.rg hx (by omega), trivial⟩, fun _ hx => ⟨hUd3.rg hx (by omega), trivial⟩, ?_⟩
        have hSd3 := (Rg.refl : Rg 0 0 0 0 w17 w17)
        have hUd3 := (Rg.refl : Rg 0 0 0 0 w17 w17)
        refine PY_h rfl rfl (fun wq hq => ev_convB1 Tryd.underlying61 (by kernel_rfl) (by kernel_rfl) rfl (hB17.rg hq.1 (by omega))) ?_
        refine PY_a ?_
        refine PB_m 0 0 0 0 0 0 0 0 rfl rfl (ev_call rfl (l1Num_1 _ _ (by omega))) ?_
        rintro _ w12 ⟨rfl, hE12⟩
        have hz12 := hE12.size
        replace hE := hE.trans hE12
        replace hSd3 := hSd3.trans hE12
        replace hUd3 := hUd3.trans hE12
        replace hB17 := hB17.ext hE12
        refine ⟨fun _ hx => ⟨hSd3.rg hx (by omega), trivial⟩, fun _ hx => ⟨hUd3.rg hx (by omega), trivial⟩, ?_⟩
        have hSd3 := (Rg.refl : Rg 0 0 0 0 w12 w12)
        have hUd3 := (Rg.refl : Rg 0 0 0 0 w12 w12)
        refine PY_h rfl rfl (fun wq hq => ev_addS rfl rfl (by (try simp only [List.length_append, List.length_cons, List.length_nil]); omega)) ?_
        refine PY_h rfl rfl (fun wq hq => ev_assign rfl) ?_
        exact PY_nil 11 () rfl ⟨lkV rfl (congrArg (fun l => Value.string (bs l)) (num_two hn.1)), trivial⟩ rfl hE
    rintro _ wt3 hE
    dsimp only [List.cons_append, List.nil_append]
    refine thenE_n ?_
    refine W_ret ?_
    refine ret1 rfl rfl ?_
    exact ⟨rfl, hE⟩

theorem l1Num_spec (n : Int) (w : World) (hn : 0 ≤ n ∧ n < 100) : Fn Tryd.prog 37 #[VI n] w (fun v w' => v = .string (bs (Lib.decDigits n.toNat)) ∧ Ext w w') := by
  by_cases h : n < 10
  · exact l1Num_1 n w ⟨hn.1, h⟩
  · exact l1Num_2 n w ⟨by omega, hn.2⟩

set_option maxRecDepth 100000 in
theorem maLine_spec {lo hi : Nat} (wd : List UInt8) (a : Option Addr) (c : Nat) (xs : List Int) (w : World) (hx : Ints lo hi w a c xs) (hr : (∀ x ∈ xs, -1 ≤ x ∧ x < 100) ∧ xs.length ≤ 10) (hw : wd.length ≤ 1000) :
    Fn Tryd.prog 27 #[.string (bs wd), .slice a xs.length c] w (fun v w' => v = .string (bs (lineW wd xs)) ∧ Ext w w') := by
  have hr2 := hr.2
  have hE := Ext.refl w
  refine Fn_of Tryd.func27 rfl rfl (by kernel_rfl) rfl ?_
  refine W_seq ?_
  refine W_region ?_
  refine WL_q rfl (ev_assign rfl) ?_
  refine WL_nil ?_
  refine thenE_n ?_
  refine W_seq ?_
  refine W_seq ?_
  refine W_region ?_
  refine WL_q rfl (ev_move rfl) ?_
  refine WL_q rfl (ev_len Tryd.underlying24 rfl) ?_
  refine WL_q rfl (ev_move rfl) ?_
  refine WL_nil ?_
  refine thenE_n ?_
  refine W_block ?_
  refine W_loopC (G := Nat) [(7, _), (8, _)] ((Subs.c rfl (Subs.c rfl Subs.n))) (fun i => [(0, .string (bs (lineW wd (xs.take i)))), (9, VI (i : Int))]) (fun i w' => Ext w w' ∧ i ≤ xs.length) (fun i => xs.length - i) 0 ((Subs.c rfl (Subs.c (lkI rfl (by omega)) Subs.n))) (⟨Ext.refl _, Nat.zero_le _⟩) ?_
  rintro i wL0 ⟨hRL0, hi'⟩
  have hzL0 := hRL0.size
  replace hE := hE.trans hRL0
  replace hx := hx.ext hRL0
  have hwl := lineW_len (wd := wd) (xs := xs.take i) (fun x hx => (hr.1 x (List.mem_of_mem_take hx)).2)
  have htk : (xs.take i).length ≤ i := by rw [List.length_take]; omega
  refine W_seq ?_
  refine W_region ?_
  refine WL_q rfl (ev_lss rfl rfl) ?_
  refine WL_nil ?_
  refine thenE_n ?_
  refine W_seq ?_
  refine W_cond rfl (fun hg10 => ?_) (fun hg10 => ?_)
  · have hp10 := of_decide_eq_true hg10
    refine W_skip ?_
    refine thenE_n ?_
    refine W_seq ?_
    refine W_block ?_
    refine W_seq ?_
    refine W_region ?_
    have hlt : i < xs.length := by omega
    have hxi := hr.1 _ (List.getElem_mem hlt)
    have hdl := dec_len (n := xs[i].toNat) (by omega)
    refine WL_q rfl (ev_indexAddr Tryd.underlying24 sz3 rfl rfl (hx.isSome (by omega)) (by omega) (by omega)) ?_
    refine WL_q rfl (ev_load one3 rfl (hx.cell (i := i) (by omega))) ?_
    refine WL_q rfl (ev_assign rfl) ?_
    refine WL_nil ?_
    refine thenE_n ?_
    refine W_seq ?_
    refine W_region ?_
    refine WL_q rfl (ev_move rfl) ?_
    refine WL_q rfl (ev_lss rfl rfl) ?_
    refine WL_nil ?_
    refine thenE_n ?_
    refine W_cond rfl (fun hg14 => ?_) (fun hg14 => ?_)
    · have hp14 := of_decide_eq_true hg14
      refine W_region ?_
      refine WL_q rfl (ev_move rfl) ?_
      refine WL_q rfl (ev_addS (b := [32, 42]) rfl rfl (by (try simp only [List.length_append, List.length_cons, List.length_nil]); omega)) ?_
      refine WL_q rfl (ev_assign rfl) ?_
      refine WL_nil ?_
      refine blockE_n ?_
      refine thenE_n ?_
      refine W_region ?_
      refine WL_q rfl (ev_add rfl rfl (by omega)) ?_
      refine WL_q rfl (ev_move rfl) ?_
      refine WL_nil ?_
      refine thenE_n ?_
      exact ⟨i + 1, (Subs.c rfl (Subs.c rfl Subs.n)), (Subs.c (lkV rfl (line_neg hlt (by omega))) (Subs.c (lkI rfl (by omega)) Subs.n)), ⟨hRL0, by omega⟩, by first | omega | (dsimp only; omega)⟩
    · have hp14 := of_decide_eq_false hg14
      refine W_region ?_
      refine WL_q rfl (ev_move rfl) ?_
      refine WL_q rfl (ev_move rfl) ?_
      refine WL_m rfl (ev_call rfl (l1Num_spec _ _ (by omega))) ?_
      rintro _ w19 ⟨rfl, hE19⟩
      have hz19 := hE19.size
      replace hE := hE.trans hE19
      replace hRL0 := hRL0.trans hE19
      replace hx := hx.ext hE19
      refine WL_q rfl (ev_addS (a := [32]) rfl rfl (by (try simp only [List.length_append, List.length_cons, List.length_nil]); omega)) ?_
      refine WL_q rfl (ev_addS rfl rfl (by (try simp only [List.length_append, List.length_cons, List.length_nil]); omega)) ?_
      refine WL_q rfl (ev_assign rfl) ?_
      refine WL_nil ?_
      refine blockE_n ?_
      refine thenE_n ?_
      refine W_region ?_
      refine WL_q rfl (ev_add rfl rfl (by omega)) ?_
      refine WL_q rfl (ev_move rfl) ?_
      refine WL_nil ?_
      refine thenE_n ?_
      exact ⟨i + 1, (Subs.c rfl (Subs.c rfl Subs.n)), (Subs.c (lkV rfl (line_pos hlt (by omega))) (Subs.c (lkI rfl (by omega)) Subs.n)), ⟨hRL0, by omega⟩, by first | omega | (dsimp only; omega)⟩
  · have hp10 := of_decide_eq_false hg10
    refine W_exit ?_
    refine thenE_x ?_
    refine thenE_x ?_
    refine blockE_hit ?_
    refine thenE_n ?_
    refine W_seq ?_
    refine W_region ?_
    refine WL_q rfl (ev_move rfl) ?_
    refine WL_q rfl (ev_assign rfl) ?_
    refine WL_nil ?_
    refine thenE_n ?_
    refine W_ret ?_
    refine ret1 rfl rfl ?_
    exact ⟨by rw [lineW_full (by omega)], hE⟩

end Go.Proofs.YtgelhpgjmcnajaaDoor
