/- A list of rows behind a meter, collected: so many rows pass, or the budget's error comes. -/
import Derived.Test.YtofkhcgkahkagaaScanE
import Derived.Test.YtofkhcgkahkagaaPScanMetersx3
namespace Go.Proofs.Ytofkhcgkahkagaa
open Go.RowKit Go.Shelf Go.Proofs.YtofkhcgkahkagaaW.PrintWords Go.Proofs.YtofkhcgkahkagaaW.PrintLast Go.Proofs.YtofkhcgkahkagaaW.PrintMore Go.Proofs.Ytofkhcgkahkagaa.PScanMeters
attribute [local go_sem] Oper.semAt_some
set_option linter.unusedVariables false
set_option linter.unusedSimpArgs false

theorem meter_run_ok (n : Nat) : ∀ (rows : List (List S66)) (j : Nat), j + rows.length ≤ n → (overRun (meterF n) j (rows.map (fun r => (r, (0 : Int))))).1.map (·.1) = rows.map (fun r => (r, (0 : Int))) ∧ (overRun (meterF n) j (rows.map (fun r => (r, (0 : Int))))).2 = j + rows.length
  | [], j, _ => by simp [overRun]
  | r :: rows, j, h => by
    have hj : j < n := by simp at h; omega
    have ih := meter_run_ok n rows (j + 1) (by simp at h; omega)
    have e1 : meterF n j r = (r, true, 0) := if_pos hj
    simp only [List.map_cons, overRun, e1]
    simp only [ne_eq, not_true_eq_false, if_false, if_true]
    exact ⟨by rw [List.map_cons, ih.1], by rw [ih.2]; simp; omega⟩
theorem meter_run_no (n : Nat) : ∀ (rows : List (List S66)) (j : Nat), j ≤ n → n < j + rows.length → ∃ outs, outs.map (·.1) = (rows.take (n - j)).map (fun r => (r, (0 : Int))) ∧ overRun (meterF n) j (rows.map (fun r => (r, (0 : Int)))) = (outs ++ [(([], 310), n + 1)], n + 1)
  | [], j, h1, h2 => by simp at h2; omega
  | r :: rows, j, h1, h2 => by
    by_cases hj : j < n
    · obtain ⟨outs, ho, hr⟩ := meter_run_no n rows (j + 1) (by omega) (by simp at h2; omega)
      have e1 : meterF n j r = (r, true, 0) := if_pos hj
      refine ⟨((r, 0), j + 1) :: outs, ?_, ?_⟩
      · rw [show n - j = (n - (j + 1)) + 1 by omega, List.take_succ_cons, List.map_cons, List.map_cons, ho]
      · simp only [List.map_cons, overRun, e1]
        simp only [ne_eq, not_true_eq_false, if_false, if_true]
        rw [hr]
        rfl
    · have e1 : meterF n j r = ([], false, 310) := if_neg hj
      have : j = n := by omega
      subst this
      refine ⟨[], by simp, ?_⟩
      simp [overRun, e1]

theorem first_error {α : Type} {x y : α × Int} {post : List (α × Int)} : ∀ {l pre : List (α × Int)}, l ++ [x] = pre ++ y :: post → (∀ z ∈ l, z.2 = 0) → y.2 ≠ 0 → pre = l ∧ y = x ∧ post = []
  | [], [], h, _, _ => by simp at h; exact ⟨rfl, h.1.symm, h.2⟩
  | [], _ :: pre, h, _, _ => by simp at h
  | a :: l, [], h, h0, hy => by
    injection h with h1 h2
    exact absurd (h1 ▸ h0 a List.mem_cons_self) hy
  | a :: l, b :: pre, h, h0, hy => by
    injection h with h1 h2
    obtain ⟨e1, e2, e3⟩ := first_error h2 (fun z hz => h0 z (List.mem_cons_of_mem _ hz)) hy
    exact ⟨by rw [h1, e1], e2, e3⟩

/-- How a collected list behind a meter ends. -/
def MeterEnd (rows : List (List S66)) (n g : Nat) (w : World) (e : Ending) (w' : World) : Prop :=
  (rows.length ≤ n ∧ (∃ A c, e = .returned (.tuple #[.slice A rows.length c, .int .i64 0]) ∧ (Kd.slice 66 k66).R 64 w' w.heap.size (fun k => w.heap.size ≤ k) (.slice A rows.length c) rows) ∧ MeterAt g (n - rows.length) w') ∨
  (n < rows.length ∧ e = .returned (.tuple #[.slice none 0 0, .int .i64 310]) ∧ MeterAt g 0 w')

/-- The worlds that List and Metered leave. -/
def listW (A : Option Addr) (m c : Nat) (w : World) : World := w.alloc (.cells #[.slice A m c] 22)
def meterW (gf : Nat) (lb : Array Value) (m : Option Addr) (w : World) : World := ((w.alloc (.cells #[.pointer m] 25)).alloc (.cells #[.func (.func gf) #[] lb] 31)).alloc (.cells #[.func (.func 34) #[] #[.pointer (some ⟨w.heap.size, 0, none⟩)]] 75)

theorem enters36 : ∀ args w, (callFunc 36 args).run Try.prog w = .ok (.enter 36 args) w := enters_of Try.func36 (by kernel_rfl) rfl
theorem enters52 : ∀ args w, (callFunc 52 args).run Try.prog w = .ok (.enter 52 args) w := enters_of Try.func52 (by kernel_rfl) rfl
theorem enters34 : ∀ args w, (callFunc 34 args).run Try.prog w = .ok (.enter 34 args) w := enters_of Try.func34 (by kernel_rfl) rfl
theorem enters51 : ∀ args w, (callFunc 51 args).run Try.prog w = .ok (.enter 51 args) w := enters_of Try.func51 (by kernel_rfl) rfl

theorem size_listW (A : Option Addr) (m c : Nat) (w : World) : (listW A m c w).heap.size = w.heap.size + 1 := by simp [listW]
theorem size_meterW (gf : Nat) (lb : Array Value) (m : Option Addr) (w : World) : (meterW gf lb m w).heap.size = w.heap.size + 3 := by simp [meterW]
theorem below_listW (A : Option Addr) (m c : Nat) (w : World) : Below w.heap.size w (listW A m c w) := (Below.refl _ w).alloc (Nat.le_refl _) _
theorem below_meterW (gf : Nat) (lb : Array Value) (m : Option Addr) (w : World) : Below w.heap.size w (meterW gf lb m w) := (((Below.refl _ w).alloc (Nat.le_refl _) _).alloc (by simp) _).alloc (by simp; omega) _

theorem metered_list (A : Option Addr) (c : Nat) (rows : List (List S66)) (g n : Nat) (w : World) (ok : Nat → Prop) (hF : Kd.F (Kd.slice 66 k66) w ok A rows.length rows) (hok : ∀ k, ok k → k ≠ g)
    (hm : MeterAt g n w) (hn : n ≤ 9223372036854775807) (hlen : rows.length ≤ 100000) (hrows : ∀ r ∈ rows, r.length ≤ 1000000) :
    Calls Try.prog 10 #[.func (.func 52) #[] #[.pointer (some ⟨(listW A rows.length c w).heap.size + 1, 0, none⟩), .pointer (some ⟨(listW A rows.length c w).heap.size + 2, 0, none⟩)]]
      (meterW 36 #[.pointer (some ⟨w.heap.size, 0, none⟩)] (some ⟨g, 0, none⟩) (listW A rows.length c w)) fun e w' =>
      Same (fun k => k < (listW A rows.length c w).heap.size + 3 ∧ ¬ k = g) (meterW 36 #[.pointer (some ⟨w.heap.size, 0, none⟩)] (some ⟨g, 0, none⟩) (listW A rows.length c w)) w' ∧
      MeterEnd rows n g (meterW 36 #[.pointer (some ⟨w.heap.size, 0, none⟩)] (some ⟨g, 0, none⟩) (listW A rows.length c w)) e w' := by
  have hg : g < w.heap.size := (Array.getElem?_eq_some_iff.1 hm).1
  obtain ⟨W, hW⟩ : ∃ W, meterW 36 #[.pointer (some ⟨w.heap.size, 0, none⟩)] (some ⟨g, 0, none⟩) (listW A rows.length c w) = W := ⟨_, rfl⟩
  have hb0 : W.heap[w.heap.size]? = some (.cells #[.slice A rows.length c] 22 (0, 0)) := by
    rw [← hW]
    exact ((below_meterW _ _ _ _).block _ (by rw [size_listW]; omega)).trans (World.alloc_heap_new w _)
  have hb1 : W.heap[w.heap.size + 1]? = some (.cells #[.pointer (some ⟨g, 0, none⟩)] 25 (0, 0)) := by
    rw [← hW]
    refine (Below.heap_alloc _ _ _ (by simp [listW])).trans ((Below.heap_alloc _ _ _ (by simp [listW])).trans ?_)
    have := World.alloc_heap_new (listW A rows.length c w) (.cells #[.pointer (some ⟨g, 0, none⟩)] 25)
    rwa [size_listW] at this
  have hb2 : W.heap[w.heap.size + 2]? = some (.cells #[.func (.func 36) #[] #[.pointer (some ⟨w.heap.size, 0, none⟩)]] 31 (0, 0)) := by
    rw [← hW]
    refine (Below.heap_alloc _ _ _ (by simp [listW])).trans ?_
    have := World.alloc_heap_new ((listW A rows.length c w).alloc (.cells #[.pointer (some ⟨g, 0, none⟩)] 25)) (.cells #[.func (.func 36) #[] #[.pointer (some ⟨w.heap.size, 0, none⟩)]] 31)
    rwa [World.size_alloc, size_listW] at this
  have hb3 : W.heap[w.heap.size + 3]? = some (.cells #[.func (.func 34) #[] #[.pointer (some ⟨w.heap.size + 1, 0, none⟩)]] 75 (0, 0)) := by
    rw [← hW]
    unfold meterW
    rw [size_listW]
    have := World.alloc_heap_new (((listW A rows.length c w).alloc (.cells #[.pointer (some ⟨g, 0, none⟩)] 25)).alloc (.cells #[.func (.func 36) #[] #[.pointer (some ⟨w.heap.size, 0, none⟩)]] 31)) (.cells #[.func (.func 34) #[] #[.pointer (some ⟨w.heap.size + 1, 0, none⟩)]] 75)
    rwa [World.size_alloc, World.size_alloc, size_listW] at this
  have hBw : Below w.heap.size w W := by rw [← hW]; exact (below_listW _ _ _ _).trans ((below_meterW _ _ _ _).mono (by rw [size_listW]; omega))
  have hsz : W.heap.size = w.heap.size + 4 := by rw [← hW, size_meterW, size_listW]
  rw [size_listW, hW]
  clear hW
  have hmW : MeterAt g n W := (hBw.block g hg).trans hm
  have hFW := Kd.F_bound (Kd.F_below hF hBw)
  have hFb := Kd.F_below (Kd.F_bound hF) hBw
  have hpre : ∀ V, Below W.heap.size W V → OverPre (w.heap.size + 2) (w.heap.size + 3) 36 #[.pointer (some ⟨w.heap.size, 0, none⟩)] 34 #[.pointer (some ⟨w.heap.size + 1, 0, none⟩)] (fun k => k = w.heap.size ∨ (ok k ∧ k < w.heap.size)) (fun k => k = w.heap.size + 1 ∨ k = g)
      (ListPre w.heap.size (fun k => ok k ∧ k < w.heap.size) A c rows) (MeterT (w.heap.size + 1) g n) V := by
    intro V hV
    have hz := hV.size
    refine ⟨(hV.block _ (by omega)).trans hb2, (hV.block _ (by omega)).trans hb3, ⟨(hV.block _ (by omega)).trans hb1, (hV.block _ (by omega)).trans hmW⟩, fun V' hV' => ⟨(hV'.block _ (by omega)).trans ((hV.block _ (by omega)).trans hb0), Kd.F_below (Kd.F_below hFb hV) hV'⟩, ?_, ?_⟩
    · rintro k (rfl | hk) <;> omega
    · rintro k (rfl | rfl) <;> omega
  have hover := over_iter (w.heap.size + 2) (w.heap.size + 3) 36 #[.pointer (some ⟨w.heap.size, 0, none⟩)] 34 #[.pointer (some ⟨w.heap.size + 1, 0, none⟩)] (rows.map (fun r => (r, (0 : Int)))) (fun k => k = g)
    (fun k => k = w.heap.size ∨ (ok k ∧ k < w.heap.size)) (fun _ => False) (fun k => k = w.heap.size + 1 ∨ k = g) (fun k => k = g) _ _ _ enters36 enters34
    (list_iter w.heap.size (fun k => ok k ∧ k < w.heap.size) (fun k => k = g) A c rows (fun k hk => hok k hk.1)) (meterF n) (MeterT (w.heap.size + 1) g n) (metered_what (w.heap.size + 1) g n (by omega) hn _ rfl)
    (fun j A B h hs => ⟨(hs.block _ (.inl rfl)).trans h.1, (hs.block _ (.inr rfl)).trans h.2⟩) (fun k hk => .inr hk) (fun k hk => hk.elim) (by omega)
    (by rintro (h | h) <;> omega) (by rintro (h | h) <;> omega) (by rintro (h | h) <;> omega) (by rintro (h | h) <;> omega)
    (by
      rintro k (rfl | rfl) (h | h)
      · omega
      · omega
      · omega
      · exact hok _ h.1 rfl)
  by_cases hle : rows.length ≤ n
  · obtain ⟨e1, e2⟩ := meter_run_ok n rows 0 (by omega)
    rw [e1, e2] at hover
    refine (collect_calls 52 _ _ _ _ _ _ _ _ enters52 hover (by simp; omega) (by intro y hy; obtain ⟨r, hr, rfl⟩ := List.mem_map.1 hy; exact hrows r hr) W hpre ?_).mono ?_
    · rintro k (rfl | rfl | (rfl | hk) | (rfl | rfl)) <;> omega
    · rintro e w' ⟨hs, hend⟩
      refine ⟨hs.mono (fun k hk => ⟨by omega, fun h => h.elim id hk.2⟩), ?_⟩
      rcases hend with ⟨_, ⟨A', c', rfl, hR⟩, Wd, hd, hdS⟩ | ⟨pre, r, er, post, hx, _, her, _⟩
      · rw [List.length_map] at hR
        rw [List.length_map]
        refine .inl ⟨hle, ⟨A', c', rfl, ?_⟩, ?_⟩
        · rw [show (rows.map (fun r => (r, (0 : Int)))).map (·.1) = rows from by simp [Function.comp_def]] at hR
          exact hR
        · have := (hdS.block g (by omega)).trans hd.2
          simpa [MeterAt] using this
      · have : ((r, er) : List S66 × Int) ∈ rows.map (fun r => (r, (0 : Int))) := by rw [hx]; simp
        obtain ⟨r', _, he⟩ := List.mem_map.1 this
        injection he with _ he
        exact absurd he.symm her
  · obtain ⟨outs, ho, hr⟩ := meter_run_no n rows 0 (by omega) (by omega)
    have hst : OverStop (meterF n) (rows.map (fun r => (r, (0 : Int)))) (MeterT (w.heap.size + 1) g n) = fun k W => ∃ y, (outs ++ [((([] : List S66), (310 : Int)), n + 1)])[k - 1]? = some y ∧ MeterT (w.heap.size + 1) g n y.2 W := by
      funext k W
      unfold OverStop
      rw [hr]
    rw [hr, hst] at hover
    have hxs : ((outs ++ [((([] : List S66), (310 : Int)), n + 1)])).map (·.1) = outs.map (·.1) ++ [([], 310)] := by simp
    rw [hxs] at hover
    have hol : outs.length ≤ rows.length := by
      have := congrArg List.length ho
      rw [List.length_map, List.length_map, List.length_take] at this
      omega
    have hz0 : ∀ z ∈ outs.map (·.1), z.2 = 0 := by
      rw [ho]
      intro z hz
      obtain ⟨r, _, rfl⟩ := List.mem_map.1 hz
      rfl
    have hzr : ∀ z ∈ outs.map (·.1), z.1.length ≤ 1000000 := by
      rw [ho]
      intro z hz
      obtain ⟨r, hr, rfl⟩ := List.mem_map.1 hz
      exact hrows r (List.mem_of_mem_take hr)
    refine (collect_calls 52 _ _ _ _ _ _ _ _ enters52 hover (by simp; omega) (by
      intro z hz
      rcases List.mem_append.1 hz with h | h
      · exact hzr z h
      · rw [List.mem_singleton.1 h]; simp) W hpre ?_).mono ?_
    · rintro k (rfl | rfl | (rfl | hk) | (rfl | rfl)) <;> omega
    · rintro e w' ⟨hs, hend⟩
      refine ⟨hs.mono (fun k hk => ⟨by omega, fun h => h.elim id hk.2⟩), .inr ?_⟩
      rcases hend with ⟨hall, _⟩ | ⟨pre, r, er, post, hx, hpre0, her, rfl, Wd, ⟨y, hy, hd⟩, hdS⟩
      · have := hall ([], 310) (by simp)
        simp at this
      · obtain ⟨rfl, hre, rfl⟩ := first_error hx hz0 her
        injection hre with _ hre
        subst hre
        refine ⟨by omega, rfl, ?_⟩
        rw [List.length_map, Nat.add_sub_cancel, List.getElem?_append_right (Nat.le_refl _), Nat.sub_self] at hy
        simp at hy
        subst hy
        have := (hdS.block g (by omega)).trans hd.2
        simpa [MeterAt] using this

theorem limitRun_mem : ∀ (xs : List (List S66 × Int)) (s l : Int), (∀ y ∈ xs, y.2 = 0) → ∀ y ∈ limitRun s l xs, y ∈ xs
  | [], s, l, _, y, hy => by simp [limitRun] at hy
  | (r, e) :: xs, s, l, h, y, hy => by
    have he : e = 0 := h (r, e) List.mem_cons_self
    subst he
    have h' : ∀ y ∈ xs, y.2 = 0 := fun y hy => h y (List.mem_cons_of_mem _ hy)
    simp only [limitRun, ne_eq, not_true_eq_false, if_false] at hy
    split at hy
    · exact List.mem_cons_of_mem _ (limitRun_mem xs _ _ h' y hy)
    · split at hy
      · split at hy
        · rw [List.mem_singleton.1 hy]; exact List.mem_cons_self
        · rcases List.mem_cons.1 hy with rfl | hy
          · exact List.mem_cons_self
          · exact List.mem_cons_of_mem _ (limitRun_mem xs _ _ h' y hy)
      · rcases List.mem_cons.1 hy with rfl | hy
        · exact List.mem_cons_self
        · exact List.mem_cons_of_mem _ (limitRun_mem xs _ _ h' y hy)
theorem limitRun_length : ∀ (xs : List (List S66 × Int)) (s l : Int), (limitRun s l xs).length ≤ xs.length
  | [], s, l => by simp [limitRun]
  | (r, e) :: xs, s, l => by
    simp only [limitRun]
    split
    · simp
    · split
      · exact Nat.le_succ_of_le (limitRun_length xs _ _)
      · split
        · split
          · simp
          · simpa using limitRun_length xs _ _
        · simpa using limitRun_length xs _ _
theorem limitOut_mem (xs : List (List S66 × Int)) (l s : Int) (h : ∀ y ∈ xs, y.2 = 0) : ∀ y ∈ limitOut l s xs, y ∈ xs := by
  unfold limitOut
  split
  · simp
  · exact limitRun_mem xs _ _ h
theorem limitOut_length (xs : List (List S66 × Int)) (l s : Int) : (limitOut l s xs).length ≤ xs.length := by
  unfold limitOut
  split
  · simp
  · exact limitRun_length xs _ _

def limitW (gf : Nat) (lb : Array Value) (limit offset : Int) (w : World) : World := ((w.alloc (.cells #[.func (.func gf) #[] lb] 31)).alloc (.cells #[.int .i64 limit] 3)).alloc (.cells #[.int .i64 offset] 3)
theorem size_limitW (gf : Nat) (lb : Array Value) (l o : Int) (w : World) : (limitW gf lb l o w).heap.size = w.heap.size + 3 := by simp [limitW]
theorem below_limitW (gf : Nat) (lb : Array Value) (l o : Int) (w : World) : Below w.heap.size w (limitW gf lb l o w) := (((Below.refl _ w).alloc (Nat.le_refl _) _).alloc (by simp) _).alloc (by simp; omega) _
theorem limitW_0 (gf : Nat) (lb : Array Value) (l o : Int) (w : World) : (limitW gf lb l o w).heap[w.heap.size]? = some (.cells #[.func (.func gf) #[] lb] 31 (0, 0)) :=
  (Below.heap_alloc _ _ _ (by simp; omega)).trans ((Below.heap_alloc _ _ _ (by simp)).trans (World.alloc_heap_new w _))
theorem limitW_1 (gf : Nat) (lb : Array Value) (l o : Int) (w : World) : (limitW gf lb l o w).heap[w.heap.size + 1]? = some (.cells #[.int .i64 l] 3 (0, 0)) := by
  refine (Below.heap_alloc _ _ _ (by simp)).trans ?_
  have := World.alloc_heap_new (w.alloc (.cells #[.func (.func gf) #[] lb] 31)) (.cells #[.int .i64 l] 3)
  rwa [World.size_alloc] at this
theorem limitW_2 (gf : Nat) (lb : Array Value) (l o : Int) (w : World) : (limitW gf lb l o w).heap[w.heap.size + 2]? = some (.cells #[.int .i64 o] 3 (0, 0)) := by
  have := World.alloc_heap_new ((w.alloc (.cells #[.func (.func gf) #[] lb] 31)).alloc (.cells #[.int .i64 l] 3)) (.cells #[.int .i64 o] 3)
  rwa [World.size_alloc, World.size_alloc] at this

/-- How a collected list behind a limit ends. -/
def LimitEnd (rows : List (List S66)) (w : World) (e : Ending) (w' : World) : Prop :=
  ∃ A c, e = .returned (.tuple #[.slice A rows.length c, .int .i64 0]) ∧ (Kd.slice 66 k66).R 64 w' w.heap.size (fun k => w.heap.size ≤ k) (.slice A rows.length c) rows ∧ Below w.heap.size w w'

theorem limited_list (A : Option Addr) (c : Nat) (rows : List (List S66)) (limit offset : Int) (hlb : -9223372036854775808 ≤ limit ∧ limit ≤ 9223372036854775807) (hob : -9223372036854775808 ≤ offset ∧ offset ≤ 9223372036854775807) (w : World) (ok : Nat → Prop) (hF : Kd.F (Kd.slice 66 k66) w ok A rows.length rows)
    (hlen : rows.length ≤ 100000) (hrows : ∀ r ∈ rows, r.length ≤ 1000000) :
    Calls Try.prog 10 #[.func (.func 51) #[] #[.pointer (some ⟨(listW A rows.length c w).heap.size + 1, 0, none⟩), .pointer (some ⟨(listW A rows.length c w).heap.size, 0, none⟩), .pointer (some ⟨(listW A rows.length c w).heap.size + 2, 0, none⟩)]]
      (limitW 36 #[.pointer (some ⟨w.heap.size, 0, none⟩)] limit offset (listW A rows.length c w)) fun e w' =>
      LimitEnd ((limitOut limit offset (rows.map (fun r => (r, (0 : Int))))).map (·.1)) (limitW 36 #[.pointer (some ⟨w.heap.size, 0, none⟩)] limit offset (listW A rows.length c w)) e w' := by
  obtain ⟨W, hW⟩ : ∃ W, limitW 36 #[.pointer (some ⟨w.heap.size, 0, none⟩)] limit offset (listW A rows.length c w) = W := ⟨_, rfl⟩
  have hb0 : W.heap[w.heap.size]? = some (.cells #[.slice A rows.length c] 22 (0, 0)) := by
    rw [← hW]
    exact ((below_limitW _ _ _ _ _).block _ (by rw [size_listW]; omega)).trans (World.alloc_heap_new w _)
  have hb1 := limitW_0 36 #[.pointer (some ⟨w.heap.size, 0, none⟩)] limit offset (listW A rows.length c w)
  have hb2 := limitW_1 36 #[.pointer (some ⟨w.heap.size, 0, none⟩)] limit offset (listW A rows.length c w)
  have hb3 := limitW_2 36 #[.pointer (some ⟨w.heap.size, 0, none⟩)] limit offset (listW A rows.length c w)
  have hBw : Below w.heap.size w W := by rw [← hW]; exact (below_listW _ _ _ _).trans ((below_limitW _ _ _ _ _).mono (by rw [size_listW]; omega))
  have hsz : W.heap.size = w.heap.size + 4 := by rw [← hW, size_limitW, size_listW]
  rw [size_listW] at hb1 hb2 hb3 ⊢
  rw [hW] at hb1 hb2 hb3 ⊢
  clear hW
  have hFb := Kd.F_below (Kd.F_bound hF) hBw
  have hpre : ∀ V, Below W.heap.size W V → LimitPre (w.heap.size + 1 + 1) (w.heap.size + 1) (w.heap.size + 1 + 2) 36 #[.pointer (some ⟨w.heap.size, 0, none⟩)] limit offset (fun k => k = w.heap.size ∨ (ok k ∧ k < w.heap.size))
      (ListPre w.heap.size (fun k => ok k ∧ k < w.heap.size) A c rows) V := by
    intro V hV
    have hz := hV.size
    refine ⟨(hV.block _ (by omega)).trans hb2, (hV.block _ (by omega)).trans hb1, (hV.block _ (by omega)).trans hb3, fun V' hV' => ⟨(hV'.block _ (by omega)).trans ((hV.block _ (by omega)).trans hb0), Kd.F_below (Kd.F_below hFb hV) hV'⟩, ?_⟩
    rintro k (rfl | hk) <;> omega
  have hlim := limit_iter (w.heap.size + 1 + 1) (w.heap.size + 1) (w.heap.size + 1 + 2) 36 #[.pointer (some ⟨w.heap.size, 0, none⟩)] limit offset hlb hob (rows.map (fun r => (r, (0 : Int)))) (fun _ => False)
    (fun k => k = w.heap.size ∨ (ok k ∧ k < w.heap.size)) (fun _ => False) _ _ _ enters36
    (list_iter w.heap.size (fun k => ok k ∧ k < w.heap.size) (fun _ => False) A c rows (fun k hk => id)) (fun k hk => hk.elim)
    (by rintro (h | h) <;> omega) (by rintro (h | h) <;> omega) (by rintro (h | h) <;> omega)
  have hz0 : ∀ y ∈ rows.map (fun r => (r, (0 : Int))), y.2 = 0 := by
    intro y hy
    obtain ⟨r, _, rfl⟩ := List.mem_map.1 hy
    rfl
  have hmem := limitOut_mem (rows.map (fun r => (r, (0 : Int)))) limit offset hz0
  have hln := limitOut_length (rows.map (fun r => (r, (0 : Int)))) limit offset
  rw [List.length_map] at hln
  refine (collect_calls 51 _ _ _ _ _ _ _ _ enters51 hlim (by omega) (by intro y hy; obtain ⟨r, hr, rfl⟩ := List.mem_map.1 (hmem y hy); exact hrows r hr) W hpre ?_).mono ?_
  · rintro k (rfl | rfl | rfl | (rfl | hk)) <;> omega
  · rintro e w' ⟨hs, hend⟩
    rcases hend with ⟨_, ⟨A', c', rfl, hR⟩, _⟩ | ⟨pre, r, er, post, hx, _, her, _⟩
    · refine ⟨A', c', by rw [List.length_map], by rw [List.length_map]; exact hR, hs.os, hs.tape, hs.output, hs.size, fun k hk => hs.block k ⟨hk, id⟩⟩
    · have h1 : ((r, er) : List S66 × Int) ∈ limitOut limit offset (rows.map (fun r => (r, (0 : Int)))) := by rw [hx]; simp
      exact absurd (hz0 _ (hmem _ h1)) her

theorem limited_list' {b1 b2 b3 : Nat} {W : World} (A : Option Addr) (c : Nat) (rows : List (List S66)) (limit offset : Int) (hlb : -9223372036854775808 ≤ limit ∧ limit ≤ 9223372036854775807) (hob : -9223372036854775808 ≤ offset ∧ offset ≤ 9223372036854775807) (w : World) (ok : Nat → Prop) (hF : Kd.F (Kd.slice 66 k66) w ok A rows.length rows)
    (hlen : rows.length ≤ 100000) (hrows : ∀ r ∈ rows, r.length ≤ 1000000) (h1 : b1 = w.heap.size + 2) (h2 : b2 = w.heap.size + 1) (h3 : b3 = w.heap.size + 3) (hW : W = limitW 36 #[.pointer (some ⟨w.heap.size, 0, none⟩)] limit offset (listW A rows.length c w)) :
    Calls Try.prog 10 #[.func (.func 51) #[] #[.pointer (some ⟨b1, 0, none⟩), .pointer (some ⟨b2, 0, none⟩), .pointer (some ⟨b3, 0, none⟩)]] W fun e w' =>
      LimitEnd ((limitOut limit offset (rows.map (fun r => (r, (0 : Int))))).map (·.1)) W e w' := by
  have := limited_list A c rows limit offset hlb hob w ok hF hlen hrows
  rw [size_listW] at this
  subst h1 h2 h3 hW
  exact this
theorem metered_list' {b1 b2 : Nat} {W : World} (A : Option Addr) (c : Nat) (rows : List (List S66)) (g n : Nat) (w : World) (ok : Nat → Prop) (hF : Kd.F (Kd.slice 66 k66) w ok A rows.length rows) (hok : ∀ k, ok k → k ≠ g)
    (hm : MeterAt g n w) (hn : n ≤ 9223372036854775807) (hlen : rows.length ≤ 100000) (hrows : ∀ r ∈ rows, r.length ≤ 1000000) (h1 : b1 = w.heap.size + 2) (h2 : b2 = w.heap.size + 3) (hW : W = meterW 36 #[.pointer (some ⟨w.heap.size, 0, none⟩)] (some ⟨g, 0, none⟩) (listW A rows.length c w)) :
    Calls Try.prog 10 #[.func (.func 52) #[] #[.pointer (some ⟨b1, 0, none⟩), .pointer (some ⟨b2, 0, none⟩)]] W fun e w' =>
      Same (fun k => k < w.heap.size + 4 ∧ ¬ k = g) W w' ∧ MeterEnd rows n g W e w' := by
  have := metered_list A c rows g n w ok hF hok hm hn hlen hrows
  rw [size_listW] at this
  subst h1 h2 hW
  exact this
end Go.Proofs.Ytofkhcgkahkagaa
