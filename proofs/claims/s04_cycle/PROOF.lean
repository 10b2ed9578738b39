import PyProof.Rows.All
import Wide.All
import OpenK.AllK
import Wide.FinOn
import Open.SpecLaws
import KE.OsHead
import KE.OsGo
import HandS.ForSpec
import HandS.Comp
import HandS.Iter
import HandS.Walk
import PySem.Challenge.RW_juicefilters_s04_cycle
set_option Elab.async false
set_option linter.all false
set_option maxRecDepth 100000
set_option maxHeartbeats 4000000
namespace Jf
open PySem PySem.Spec PyProof.Rows L2
open PySem.W (Codec)
/-! ### the text by places -/
def topS (i : Nat) : Stmt := PySem.Challenge.pw_juicefilters_s04_cycle.main.body.getD i (.Pass ⟨0, 0, 0, 0⟩)
abbrev s_is_washing : Stmt := topS 4
theorem sc_is_washing : FnScope ["w"] ["w"] (defScope s_is_washing) := ⟨rfl, rfl, rfl, by decide +kernel, rfl, by decide +kernel, by decide +kernel⟩
abbrev s_is_cycle : Stmt := topS 5
theorem sc_is_cycle : FnScope ["n"] ["n"] (defScope s_is_cycle) := ⟨rfl, rfl, rfl, by decide +kernel, rfl, by decide +kernel, by decide +kernel⟩
abbrev s_through : Stmt := topS 9
theorem sc_through : FnScope ["cake"] ["cake"] (defScope s_through) := ⟨rfl, rfl, rfl, by decide +kernel, rfl, by decide +kernel, by decide +kernel⟩
abbrev s_through_in : Stmt := topS 10
theorem sc_through_in : FnScope ["n", "cake"] ["n"] (defScope s_through_in) := ⟨rfl, rfl, rfl, by decide +kernel, rfl, by decide +kernel, by decide +kernel⟩
abbrev s_cycle : Stmt := topS 12
theorem sc_cycle : FnScope ["w", "n"] ["w", "n"] (defScope s_cycle) := ⟨rfl, rfl, rfl, by decide +kernel, rfl, by decide +kernel, by decide +kernel⟩
/-! ### the mathematics -/
theorem flow_is (c : Nat) : (10000 : Int) / (10 + (c : Int)) = ((Kzb4.flow c : Nat) : Int) := by
  unfold Kzb4.flow
  rw [Int.natCast_ediv, Int.natCast_add]
  rfl
theorem sum_from : ∀ (l : List Nat) (a : Nat), ((l.foldl (· + ·) a : Nat) : Int) = (a : Int) + (l.map fun x : Nat => (x : Int)).sum
  | [], a => by
    show (a : Int) = (a : Int) + ([] : List Int).sum
    rw [List.sum_nil]
    omega
  | x :: r, a => by
    have ih := sum_from r (a + x)
    show ((r.foldl (· + ·) (a + x) : Nat) : Int) = (a : Int) + ((x : Int) :: r.map fun x : Nat => (x : Int)).sum
    rw [ih, List.sum_cons]
    omega
theorem sum_is (l : List Nat) : (l.map fun x : Nat => (x : Int)).sum = ((Kzb1.sum l : Nat) : Int) := by
  have h := sum_from l 0
  show _ = ((l.foldl (· + ·) 0 : Nat) : Int)
  rw [h]
  omega
/-! ### a def that may be called by its name -/
structure Has (P : Program) (w : World) (K : PySem.W.Frag) (mg : Str → Option Value) (base : Heap) (x : Str) (k : Nat) (ps : List Str) (sp : Sp) (f : Addr) (fd : FuncData) : Prop where
  ok : FnOk P w K mg base CX0 k f fd ps sp
  at_ : mg x = some (.ref f)
  kp : PySem.W.keepIn K (.ref f) = true
  bd : Binds K fd ps []
theorem pe_has {X : Cx} {x : Str} {k : Nat} {ps : List Str} {sp : Sp} {f : Addr} {fd : FuncData} {e : Expr} {es : List Expr} {t : TA} {p pos : Pos} (G : Has X.prog X.w X.K X.mg X.base x k ps sp f fd) (hr : Room k X.A) (ha : PA X (e :: es) t) (hg : Gl X x := by rfl)
    (hdb : (x == ("__debug__" : Str)) = false := by decide) (he : starEach (e :: es) X.env = (false, eval e X.env) :: starEach es X.env := by rfl) (hpl : (backTo pos (starEach es X.env)).any (·.1) = false := by rfl) :
    PE X (.Call (.Name x p) (e :: es) [] pos) (tCall sp [] E0 t) := pe_call G.ok hr hg G.at_ G.kp G.bd .nil pass0 ha hdb he hpl
theorem pe_num {X : Cx} {x : Str} {i : Int} {t} {pos : Pos} (hm : X.mg x = some (.int i t)) (hg : Gl X x := by rfl) (hd : (x == ("__debug__" : Str)) = false := by decide) : PE X (.Name x pos) (tC (.int i)) := pe_glob hg hm ⟨t, rfl⟩ hd
theorem same_upd {H : Hp} {p : Addr} {o : HO} (h : H p = none) : Same H (upd H p o) := fun b x e => by
  rw [upd_ne (ne_of_none e h)]
  exact e
section
variable {P : Program} {w : World} {K : PySem.W.Frag} {mg : Str → Option Value} {base : Heap}
/-! ### is_washing -/
theorem wash_is (w : Nat) : Kzb4.okWash w = (decide (1 ≤ w) && decide (w ≤ 20)) := rfl
theorem wash_in {w : Nat} (h : (1 : Int) ≤ (w : Int)) : Kzb4.okWash w = decide ((w : Int) ≤ 20) := by
  rw [wash_is, decide_eq_true (show 1 ≤ w by omega), Bool.true_and]
  exact decide_eq_decide.mpr (by omega)
theorem wash_out {w : Nat} (h : ¬ (1 : Int) ≤ (w : Int)) : Kzb4.okWash w = false := by
  rw [wash_is, decide_eq_false (show ¬ 1 ≤ w by omega)]
  rfl
theorem wash_le {w : Nat} (h : Kzb4.okWash w = true) : 1 ≤ w ∧ w ≤ 20 := by
  rw [wash_is, Bool.and_eq_true] at h
  exact ⟨of_decide_eq_true h.1, of_decide_eq_true h.2⟩
def sp_is_washing : Sp := fun vs H Q _ => ∃ w : Nat, vs = [.int w] ∧ Q (.bl (Kzb4.okWash w)) H
theorem ok_is_washing {f : Addr} {fd : FuncData} (F : Fun K "is_washing" "is_washing" s_is_washing f fd) {t_MOST_WASHING : _} (c_MOST_WASHING : mg "MOST_WASHING" = some (.int 20 t_MOST_WASHING)) : FnOk P w K mg base CX0 1 f fd ["w"] sp_is_washing := by
  refine F.ok sc_is_washing (fun vs H Q E h => ?_) (fun cdv A outer s H vs Q E hr h => ?_)
  · obtain ⟨w, rfl, _⟩ := h
    rfl
  · obtain ⟨w, rfl, q⟩ := h
    refine ⟨_, pss_one (ps_ret (pe_and (pe_cmpR op_le pe_int (pv 0) (nomark _)) (pe_one (pe_cmpR op_le (pv 0) (pe_num c_MOST_WASHING) (nomark _))))), ?_⟩
    refine ⟨_, rfl, _, _, rfl, rfl, _, rfl, ite2 (fun e => ?_) (fun e => ?_)⟩
    · rw [wash_in (of_decide_eq_true e)] at q
      exact ⟨_, rfl, _, _, rfl, rfl, q⟩
    · rw [wash_out (fun z => e (decide_eq_true z))] at q
      exact q
/-! ### is_cycle -/
def okCycle (n : Nat) : Bool := decide (1 ≤ n) && decide (n ≤ 60)
theorem cycle_in {n : Nat} (h : (1 : Int) ≤ (n : Int)) : okCycle n = decide ((n : Int) ≤ 60) := by
  unfold okCycle
  rw [decide_eq_true (show 1 ≤ n by omega), Bool.true_and]
  exact decide_eq_decide.mpr (by omega)
theorem cycle_out {n : Nat} (h : ¬ (1 : Int) ≤ (n : Int)) : okCycle n = false := by
  unfold okCycle
  rw [decide_eq_false (show ¬ 1 ≤ n by omega)]
  rfl
theorem cycle_le {n : Nat} (h : okCycle n = true) : 1 ≤ n ∧ n ≤ 60 := by
  unfold okCycle at h
  rw [Bool.and_eq_true] at h
  exact ⟨of_decide_eq_true h.1, of_decide_eq_true h.2⟩
theorem cycle_no {n : Nat} (h : okCycle n = false) : n < 1 ∨ Kzb4.cycles < n := by
  by_cases h1 : 1 ≤ n
  · by_cases h2 : n ≤ 60
    · unfold okCycle at h
      rw [decide_eq_true h1, decide_eq_true h2] at h
      exact Bool.noConfusion h
    · exact .inr (by show 60 < n; omega)
  · exact .inl (by omega)
def sp_is_cycle : Sp := fun vs H Q _ => ∃ n : Nat, vs = [.int n] ∧ Q (.bl (okCycle n)) H
theorem ok_is_cycle {f : Addr} {fd : FuncData} (F : Fun K "is_cycle" "is_cycle" s_is_cycle f fd) {t_MOST_CYCLE : _} (c_MOST_CYCLE : mg "MOST_CYCLE" = some (.int 60 t_MOST_CYCLE)) : FnOk P w K mg base CX0 1 f fd ["n"] sp_is_cycle := by
  refine F.ok sc_is_cycle (fun vs H Q E h => ?_) (fun cdv A outer s H vs Q E hr h => ?_)
  · obtain ⟨w, rfl, _⟩ := h
    rfl
  · obtain ⟨w, rfl, q⟩ := h
    refine ⟨_, pss_one (ps_ret (pe_and (pe_cmpR op_le pe_int (pv 0) (nomark _)) (pe_one (pe_cmpR op_le (pv 0) (pe_num c_MOST_CYCLE) (nomark _))))), ?_⟩
    refine ⟨_, rfl, _, _, rfl, rfl, _, rfl, ite2 (fun e => ?_) (fun e => ?_)⟩
    · rw [cycle_in (of_decide_eq_true e)] at q
      exact ⟨_, rfl, _, _, rfl, rfl, q⟩
    · rw [cycle_out (fun z => e (decide_eq_true z))] at q
      exact q
/-! ### through -/
def sp_through : Sp := fun vs H Q _ => ∃ c : Nat, vs = [.int c] ∧ c ≤ 1000000 ∧ Q (.int ((Kzb4.flow c : Nat) : Int)) H
theorem ok_through {f : Addr} {fd : FuncData} (F : Fun K "through" "through" s_through f fd) {t_THROUGH : _} (c_THROUGH : mg "THROUGH" = some (.int 10000 t_THROUGH)) {t_CLEAN : _} (c_CLEAN : mg "CLEAN" = some (.int 10 t_CLEAN)) : FnOk P w K mg base CX0 1 f fd ["cake"] sp_through := by
  refine F.ok sc_through (fun vs H Q E h => ?_) (fun cdv A outer s H vs Q E hr h => ?_)
  · obtain ⟨c, rfl, _⟩ := h
    rfl
  · obtain ⟨c, rfl, hc, q⟩ := h
    rw [← flow_is c] at q
    exact ⟨_, pss_one (ps_ret (pe_op op_fdiv (pe_num c_THROUGH) (pe_op op_add (pe_num c_CLEAN) (pv 0)))), _, rfl, _, _, rfl, rfl, _, _, rfl, rfl, ⟨by omega, by omega⟩, q⟩
/-! ### through_in -/
def flowsTo (i : Nat) : List Int := ((List.range i).map Kzb4.flow).map fun x : Nat => (x : Int)
theorem flowsTo_succ (i : Nat) : flowsTo (i + 1) = flowsTo i ++ [((Kzb4.flow i : Nat) : Int)] := by
  unfold flowsTo
  rw [List.range_succ, List.map_append, List.map_append]
  rfl
theorem flowsTo_length (i : Nat) : (flowsTo i).length = i := by
  unfold flowsTo
  rw [List.length_map, List.length_map, List.length_range]
theorem flowsTo_sum (i : Nat) : (flowsTo i).sum = ((Kzb4.through i : Nat) : Int) := sum_is _
def sp_through_in : Sp := fun vs H Q _ => ∃ n : Nat, vs = [.int n] ∧ n ≤ 1000 ∧ ∀ H', Same H H' → Q (.int ((Kzb4.through n : Nat) : Int)) H'
theorem ok_through_in {f : Addr} {fd : FuncData} (F : Fun K "through_in" "through_in" s_through_in f fd) {f_through : Addr} {fd_through : FuncData} (h_through : Has P w K mg base "through" 1 ["cake"] sp_through f_through fd_through) (z_sum : mg "sum" = none) (z_range : mg "range" = none) : FnOk P w K mg base CX0 2 f fd ["n"] sp_through_in := by
  refine F.ok sc_through_in (fun vs H Q E h => ?_) (fun cdv A outer s H vs Q E hr h => ?_)
  · obtain ⟨n, rfl, _⟩ := h
    rfl
  · obtain ⟨n, rfl, hn, q⟩ := h
    have hr1 : Room 1 _ := hr.mono (by decide)
    refine ⟨_, pss_one (ps_ret (pe_callB (cr_sum rfl) (by rfl) z_sum (by decide +kernel) (pa_cons
      (pe_lc (own := [("cake", 1)]) (g := gName 1) (tt := tYes) (by rfl) sc_through_in.nd (pi_range1 rfl z_range (pa_cons (pv 0) pa_nil)) (blkOk_by (N := ["n", "cake"]) (sc := defScope s_through_in) (by decide +kernel))
        (fun _ _ _ _ _ => pg_name (i := 1) sc_through_in.nd rfl (Or.inl rfl)) (fun _ _ _ _ _ => pts_nil) (fun _ _ _ _ _ => pe_has h_through hr1 (pa_cons (pv 1) pa_nil))) pa_nil))), ?_⟩
    refine ⟨_, rfl, n, rfl, by omega, by omega, fun D hD => lc_range (lo := 0) (n := ((n : Nat) : Int).toNat) (fun i H' => Same H H' ∧ H' D = some (.lst ((flowsTo i).map V.int))) ⟨same_upd hD, upd_same⟩ ?_ ?_⟩
    · rintro i H' hi ⟨sm, hd⟩
      have e0 : (0 : Int) + (i : Int) = (i : Int) := Int.zero_add _
      rw [e0]
      have hi' : i < n := by omega
      refine ⟨rfl, _, rfl, i, rfl, by omega, _, hd, ?_, ?_, ?_⟩
      · rw [List.length_map, flowsTo_length]
        exact small1000 (by omega)
      · intro b o e
        rw [upd_ne (ne_of_none e hD)]
        exact sm b o e
      · rw [upd_same, flowsTo_succ, List.map_append]
        rfl
    · rintro H' ⟨sm, hd⟩
      rw [Int.toNat_natCast] at hd
      refine ⟨D, flowsTo n, rfl, SqL.of hd, ?_⟩
      rw [flowsTo_sum]
      exact q H' sm
/-! ### cycle -/
theorem ans_cycle (w n : Nat) : PyKzb4.cycle w n = if Kzb4.okWash w = false ∨ n < 1 ∨ Kzb4.cycles < n then [-22] else [((Kzb4.through n / (n + w) : Nat) : Int), ((Kzb4.through n : Nat) : Int)] := by
  show ((Kzb4.answer (.cycle w n)).value :: Kzb4Neutral.ints (Kzb4.answer (.cycle w n)).nums) = _
  unfold Kzb4.answer
  dsimp only
  split <;> rfl
theorem per_tick (t n w : Nat) : ((t : Nat) : Int) / ((n : Int) + (w : Int)) = ((t / (n + w) : Nat) : Int) := by
  rw [Int.natCast_ediv, Int.natCast_add]
def sp_cycle (K : PySem.W.Frag) : Sp := fun vs H Q _ => ∃ w n : Nat, vs = [.int w, .int n] ∧ ∀ (H' : Hp) (p : Addr), H' p = some (.lst ((PyKzb4.cycle w n).map V.int)) → Q (.ref p) H'
theorem ok_cycle {f : Addr} {fd : FuncData} (F : Fun K "cycle" "cycle" s_cycle f fd) {t_REFUSED : _} (c_REFUSED : mg "REFUSED" = some (.int (-22) t_REFUSED)) {f_is_washing : Addr} {fd_is_washing : FuncData} (h_is_washing : Has P w K mg base "is_washing" 1 ["w"] sp_is_washing f_is_washing fd_is_washing) {f_is_cycle : Addr} {fd_is_cycle : FuncData} (h_is_cycle : Has P w K mg base "is_cycle" 1 ["n"] sp_is_cycle f_is_cycle fd_is_cycle) {f_through_in : Addr} {fd_through_in : FuncData} (h_through_in : Has P w K mg base "through_in" 2 ["n"] sp_through_in f_through_in fd_through_in) : FnOk P w K mg base CX0 3 f fd ["w", "n"] (sp_cycle K) := by
  refine F.ok sc_cycle (fun vs H Q E h => ?_) (fun cdv A outer s H vs Q E hr h => ?_)
  · obtain ⟨w, n, rfl, _⟩ := h
    rfl
  · obtain ⟨w, n, rfl, q⟩ := h
    rw [ans_cycle] at q
    have hr1 : Room 1 _ := hr.mono (by decide)
    have hr2 : Room 2 _ := hr.mono (by decide)
    refine ⟨_, pss_cons (ps_if (PW.pt (pw_or (pt_not (pt_val (pe_has h_is_washing hr1 (pa_cons (pv 0) pa_nil)))) (pw_or1 (pt_not (pt_val (pe_has h_is_cycle hr1 (pa_cons (pv 1) pa_nil))))))) (pss_one (ps_ret (pe_lst (pa_cons (pe_num c_REFUSED) pa_nil)))) pss_nil)
      (pss_one (ps_ret (pe_lst (pa_cons (pe_op op_fdiv (pe_has h_through_in hr2 (pa_cons (pv 1) pa_nil)) (pe_op op_add (pv 1) (pv 0))) (pa_cons (pe_has h_through_in hr2 (pa_cons (pv 1) pa_nil)) pa_nil))))), ?_⟩
    refine ⟨_, rfl, w, rfl, _, rfl, ite2 (fun e => iteT ?_) (fun e => ?_)⟩
    · rw [Bool.not_eq_true'] at e
      rw [if_pos (.inl e)] at q
      exact ⟨(by show 1 ≤ sizeLine; decide), fun p hp => q _ p upd_same⟩
    · have e1 : Kzb4.okWash w = true := by
        cases z : Kzb4.okWash w with
        | true => rfl
        | false => exact absurd (by rw [z]; rfl) e
      have hl := wash_le e1
      refine ⟨_, rfl, n, rfl, _, rfl, ite2 (fun e2 => ?_) (fun e2 => ?_)⟩
      · rw [Bool.not_eq_true'] at e2
        rw [if_pos (.inr (cycle_no e2))] at q
        exact ⟨(by show 1 ≤ sizeLine; decide), fun p hp => q _ p upd_same⟩
      · have e3 : okCycle n = true := by
          cases z : okCycle n with
          | true => rfl
          | false => exact absurd (by rw [z]; rfl) e2
        have hn := cycle_le e3
        rw [if_neg (by
          intro z
          rcases z with z | z | z
          · rw [e1] at z
            exact Bool.noConfusion z
          · omega
          · have z' : 60 < n := z
            omega)] at q
        refine ⟨_, rfl, n, rfl, by omega, fun H1 s1 => ⟨_, rfl, _, rfl, _, _, rfl, rfl, _, _, rfl, rfl, ⟨by omega, by omega⟩, _, rfl, n, rfl, by omega, fun H2 s2 => ⟨(by show 2 ≤ sizeLine; decide), fun p hp => q _ p ?_⟩⟩⟩
        rw [upd_same, ← per_tick]
        rfl
end
/-! ### what the top has written -/
theorem all_mk {P : Program} {w : World} {K : PySem.W.Frag} {h : Heap} {mg : Str → Option Value} {fa f1 f2 f3 f4 f5 : Addr} (X : K.In h) (G : h.Ns mainGlobals mg) (hfa : mg "cycle" = some (.ref fa))
    {od1 an1 : Option Addr} {sl1 : Array (Option Value)} {oc1 kV1 dc1 pm1 cd1 ct1 : Value} {od2 an2 : Option Addr} {sl2 : Array (Option Value)} {oc2 kV2 dc2 pm2 cd2 ct2 : Value} {od3 an3 : Option Addr} {sl3 : Array (Option Value)} {oc3 kV3 dc3 pm3 cd3 ct3 : Value} {od4 an4 : Option Addr} {sl4 : Array (Option Value)} {oc4 kV4 dc4 pm4 cd4 ct4 : Value} {od5 an5 : Option Addr} {sl5 : Array (Option Value)} {oc5 kV5 dc5 pm5 cd5 ct5 : Value} {t_CLEAN : _} {t_MOST_CYCLE : _} {t_MOST_WASHING : _} {t_REFUSED : _} {t_THROUGH : _}
    (a1 : PySem.W.nsIn K mainGlobals "is_washing" = some (some (.ref f1)))
    (l1 : K.lookup f1 = some ⟨oc1, od1, .func (PySem.W.fnOf "is_washing" "is_washing" (defArgs s_is_washing) (defBody s_is_washing) (defScope s_is_washing) .none kV1 dc1 pm1 an1 cd1 ct1), sl1⟩)
    (c1 : PySem.W.codeIn K cd1 "is_washing" = true)
    (k1 : PySem.W.keepIn K (.ref f1) = true)
    (a2 : PySem.W.nsIn K mainGlobals "is_cycle" = some (some (.ref f2)))
    (l2 : K.lookup f2 = some ⟨oc2, od2, .func (PySem.W.fnOf "is_cycle" "is_cycle" (defArgs s_is_cycle) (defBody s_is_cycle) (defScope s_is_cycle) .none kV2 dc2 pm2 an2 cd2 ct2), sl2⟩)
    (c2 : PySem.W.codeIn K cd2 "is_cycle" = true)
    (k2 : PySem.W.keepIn K (.ref f2) = true)
    (a3 : PySem.W.nsIn K mainGlobals "through" = some (some (.ref f3)))
    (l3 : K.lookup f3 = some ⟨oc3, od3, .func (PySem.W.fnOf "through" "through" (defArgs s_through) (defBody s_through) (defScope s_through) .none kV3 dc3 pm3 an3 cd3 ct3), sl3⟩)
    (c3 : PySem.W.codeIn K cd3 "through" = true)
    (k3 : PySem.W.keepIn K (.ref f3) = true)
    (a4 : PySem.W.nsIn K mainGlobals "through_in" = some (some (.ref f4)))
    (l4 : K.lookup f4 = some ⟨oc4, od4, .func (PySem.W.fnOf "through_in" "through_in" (defArgs s_through_in) (defBody s_through_in) (defScope s_through_in) .none kV4 dc4 pm4 an4 cd4 ct4), sl4⟩)
    (c4 : PySem.W.codeIn K cd4 "through_in" = true)
    (k4 : PySem.W.keepIn K (.ref f4) = true)
    (a5 : PySem.W.nsIn K mainGlobals "cycle" = some (some (.ref f5)))
    (l5 : K.lookup f5 = some ⟨oc5, od5, .func (PySem.W.fnOf "cycle" "cycle" (defArgs s_cycle) (defBody s_cycle) (defScope s_cycle) .none kV5 dc5 pm5 an5 cd5 ct5), sl5⟩)
    (c5 : PySem.W.codeIn K cd5 "cycle" = true)
    (k5 : PySem.W.keepIn K (.ref f5) = true)
    (g_CLEAN : PySem.W.nsIn K mainGlobals "CLEAN" = some (some (.int 10 t_CLEAN)))
    (g_MOST_CYCLE : PySem.W.nsIn K mainGlobals "MOST_CYCLE" = some (some (.int 60 t_MOST_CYCLE)))
    (g_MOST_WASHING : PySem.W.nsIn K mainGlobals "MOST_WASHING" = some (some (.int 20 t_MOST_WASHING)))
    (g_REFUSED : PySem.W.nsIn K mainGlobals "REFUSED" = some (some (.int (-22) t_REFUSED)))
    (g_THROUGH : PySem.W.nsIn K mainGlobals "THROUGH" = some (some (.int 10000 t_THROUGH)))
    (n_range : PySem.W.nsIn K mainGlobals "range" = some none)
    (n_sum : PySem.W.nsIn K mainGlobals "sum" = some none)
    : ∃ fd : FuncData, (∀ (s : Shared) (us : List Value), us.length = (["w", "n"] : List Str).length → BindsTo s fd ⟨us, []⟩ ((["w", "n"] : List Str).zip us)) ∧ ∀ base : Heap, K.In base → base.Ns mainGlobals mg → FnOk P w K mg base CX0 3 fa fd ["w", "n"] (sp_cycle K) := by
  have e := hfa.symm.trans (PySem.W.mg_of X G a5)
  cases e
  have F1 := fun_mk (st := s_is_washing) l1 c1 k1
  have b1 := F1.binds (ps := ["w"]) fun _ _ _ _ _ _ us hl => match us, hl with | [_], _ => rfl
  have F2 := fun_mk (st := s_is_cycle) l2 c2 k2
  have b2 := F2.binds (ps := ["n"]) fun _ _ _ _ _ _ us hl => match us, hl with | [_], _ => rfl
  have F3 := fun_mk (st := s_through) l3 c3 k3
  have b3 := F3.binds (ps := ["cake"]) fun _ _ _ _ _ _ us hl => match us, hl with | [_], _ => rfl
  have F4 := fun_mk (st := s_through_in) l4 c4 k4
  have b4 := F4.binds (ps := ["n"]) fun _ _ _ _ _ _ us hl => match us, hl with | [_], _ => rfl
  have F5 := fun_mk (st := s_cycle) l5 c5 k5
  have b5 := F5.binds (ps := ["w", "n"]) fun _ _ _ _ _ _ us hl => match us, hl with | [_, _], _ => rfl
  have c_CLEAN := PySem.W.mg_of X G g_CLEAN
  have c_MOST_CYCLE := PySem.W.mg_of X G g_MOST_CYCLE
  have c_MOST_WASHING := PySem.W.mg_of X G g_MOST_WASHING
  have c_REFUSED := PySem.W.mg_of X G g_REFUSED
  have c_THROUGH := PySem.W.mg_of X G g_THROUGH
  have z_range := PySem.W.mg_none_of X G n_range
  have z_sum := PySem.W.mg_none_of X G n_sum
  refine ⟨PySem.W.fnOf "cycle" "cycle" (defArgs s_cycle) (defBody s_cycle) (defScope s_cycle) .none kV5 dc5 pm5 an5 cd5 ct5, fun s us hu => match us, hu with | [_, _], _ => .of_eq rfl, fun base _ _ => ?_⟩
  have h_is_washing : Has P w K mg base "is_washing" 1 ["w"] sp_is_washing f1 _ := ⟨ok_is_washing F1 c_MOST_WASHING, PySem.W.mg_of X G a1, k1, b1⟩
  have h_is_cycle : Has P w K mg base "is_cycle" 1 ["n"] sp_is_cycle f2 _ := ⟨ok_is_cycle F2 c_MOST_CYCLE, PySem.W.mg_of X G a2, k2, b2⟩
  have h_through : Has P w K mg base "through" 1 ["cake"] sp_through f3 _ := ⟨ok_through F3 c_THROUGH c_CLEAN, PySem.W.mg_of X G a3, k3, b3⟩
  have h_through_in : Has P w K mg base "through_in" 2 ["n"] sp_through_in f4 _ := ⟨ok_through_in F4 h_through z_sum z_range, PySem.W.mg_of X G a4, k4, b4⟩
  exact ok_cycle F5 c_REFUSED h_is_washing h_is_cycle h_through_in
end Jf
open PySem PySem.W PyProof.Rows
set_option maxRecDepth 100000 in
set_option maxHeartbeats 0 in
theorem PySem.Challenge.cw_juicefilters_s04_cycle_holds : PySem.Challenge.rw_juicefilters_s04_cycle.Holds := by
  w_on; k_headS; (case hw => exact ⟨[.int 0, .int 0], by decide +kernel, by decide +kernel⟩)
  k_fillS
  refine L2.walk_specK (r := PySem.Challenge.rw_juicefilters_s04_cycle) (k := 3) (CX := L2.CX0) (ps := ["w", "n"]) (sp := fun K => (Jf.sp_cycle K)) (by decide +kernel) rfl rfl ⟨rfl, by decide, by decide⟩ (fun w h Y => PySem.W.kIn_of Y) ?F ?S (fun _ _ _ _ z => z)
  case F =>
    intro w mg fa h Y KX G hmg
    refine' Jf.all_mk KX G hmg ?a1 ?l1 ?c1 ?k1 ?a2 ?l2 ?c2 ?k2 ?a3 ?l3 ?c3 ?k3 ?a4 ?l4 ?c4 ?k4 ?a5 ?l5 ?c5 ?k5 ?g_CLEAN ?g_MOST_CYCLE ?g_MOST_WASHING ?g_REFUSED ?g_THROUGH ?n_range ?n_sum
    (case a1 => k_is); (case l1 => k_is); (case c1 => k_is); (case k1 => k_is); (case a2 => k_is); (case l2 => k_is)
    (case c2 => k_is); (case k2 => k_is); (case a3 => k_is); (case l3 => k_is); (case c3 => k_is); (case k3 => k_is)
    (case a4 => k_is); (case l4 => k_is); (case c4 => k_is); (case k4 => k_is); (case a5 => k_is); (case l5 => k_is)
    (case c5 => k_is); (case k5 => k_is); (case g_CLEAN => k_is); (case g_MOST_CYCLE => k_is); (case g_MOST_WASHING => k_is); (case g_REFUSED => k_is)
    (case g_THROUGH => k_is); (case n_range => k_is); (case n_sum => k_is)
  case S =>
    intro K H xs a hO hwi hask hx
    obtain ⟨a1, a2, u⟩ := a
    have q : (Codec.inInt 0 4294967295 a1 && (Codec.inInt 0 4294967295 a2 && true)) = true := hwi
    rw [Bool.and_eq_true, Bool.and_eq_true] at q
    have q1 := (Codec.inInt_iff.mp q.1).1
    have q2 := (Codec.inInt_iff.mp q.2.1).1
    obtain ⟨s, rfl⟩ : ∃ s : Nat, a1 = (s : Int) := ⟨a1.toNat, (Int.toNat_of_nonneg q1).symm⟩
    obtain ⟨o, rfl⟩ : ∃ o : Nat, a2 = (o : Int) := ⟨a2.toNat, (Int.toNat_of_nonneg q2).symm⟩
    cases hx with
    | cons h1 h2 =>
      cases h2 with
      | cons h3 h4 =>
        cases h4
        cases h1
        cases h3
        exact ⟨s, o, rfl, fun H' p hp => .lst (L2.SqL.of hp) (L2.dw_ints _)⟩
#print axioms PySem.Challenge.cw_juicefilters_s04_cycle_holds
