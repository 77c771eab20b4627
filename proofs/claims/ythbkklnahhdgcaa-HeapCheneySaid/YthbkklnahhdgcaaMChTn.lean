/-
  The walk of HeapCheney.
-/
import Derived.Test.YthbkklnahhdgcaaMChTm
namespace Go.Proofs.Ythbkklnahhdgcaa.ChTn
open Go Go.Proofs Go.RowKit Go.Maps Go.Proofs.Ythbkklnahhdgcaa.Lib Go.Proofs.Ythbkklnahhdgcaa.HeapR Go.Proofs.Ythbkklnahhdgcaa.HeapB Go.Proofs.Ythbkklnahhdgcaa.HeapC Go.Proofs.Ythbkklnahhdgcaa.HeapD Go.Proofs.Ythbkklnahhdgcaa.ChA Go.Proofs.Ythbkklnahhdgcaa.ChT Go.Proofs.Ythbkklnahhdgcaa.ChCa Go.Proofs.Ythbkklnahhdgcaa.ChCc Go.Proofs.Ythbkklnahhdgcaa.ChE Go.Proofs.Ythbkklnahhdgcaa.ChH Go.Proofs.Ythbkklnahhdgcaa.ChI Go.Proofs.Ythbkklnahhdgcaa.ChJ Go.Proofs.Ythbkklnahhdgcaa.ChL Go.Proofs.Ythbkklnahhdgcaa.ChN Go.Proofs.Ythbkklnahhdgcaa.ChO Go.Proofs.Ythbkklnahhdgcaa.ChQ Go.Proofs.Ythbkklnahhdgcaa.ChR Go.Proofs.Ythbkklnahhdgcaa.ChU Go.Proofs.Ythbkklnahhdgcaa.ChW Go.Proofs.Ythbkklnahhdgcaa.ChZ Go.Proofs.Ythbkklnahhdgcaa.ChTa Go.Proofs.Ythbkklnahhdgcaa.ChTb Go.Proofs.Ythbkklnahhdgcaa.ChTd Go.Proofs.Ythbkklnahhdgcaa.ChTg Go.Proofs.Ythbkklnahhdgcaa.ChTh Go.Proofs.Ythbkklnahhdgcaa.ChTi Go.Proofs.Ythbkklnahhdgcaa.ChTj Go.Proofs.Ythbkklnahhdgcaa.ChTk Go.Proofs.Ythbkklnahhdgcaa.ChTl Go.Proofs.Ythbkklnahhdgcaa.ChTm

theorem len_eq0 (n : Nat) (h : n = 0) : ((n : Int) == 0) = true := by simp [h]
theorem len_ne0 (n : Nat) (h : n ≠ 0) : ((n : Int) == 0) = false := by simp; omega
theorem len_gt (k n : Nat) (h : k < n) : decide ((k : Int) < (n : Int)) = true := by simp; omega
theorem len_le (k n : Nat) (h : ¬ k < n) : decide ((k : Int) < (n : Int)) = false := by simp; omega

variable (sizes links l : List Int) (oa0 oa1 oa2 : Option Addr) (c0 c1 c2 : Nat) (w : World)
set_option maxRecDepth 100000 in
set_option maxHeartbeats 4000000 in
theorem law_out (h : sizes.length = 0 ∨ 30 < sizes.length ∨ 90 < links.length ∨ 12 < l.length) :
    Calls Try.prog 3 #[.slice oa0 sizes.length c0, .slice oa1 links.length c1, .slice oa2 l.length c2] w fun e w' => e = .returned (.bool true) ∧ Below w.heap.size w w' := by
  by_cases g0 : sizes.length = 0
  · have e0 := len_eq0 _ g0
    clear h g0
    go_enter Try.func3, Try.ntmps3
    go_wp2
    go_ret
    exact ⟨rfl, Below.refl _ _⟩
  have e0 := len_ne0 _ g0
  by_cases g1 : 30 < sizes.length
  · have e1 : decide ((30 : Int) < (sizes.length : Int)) = true := len_gt 30 _ g1
    clear h g0 g1
    go_enter Try.func3, Try.ntmps3
    go_wp2
    go_ret
    exact ⟨rfl, Below.refl _ _⟩
  have e1 : decide ((30 : Int) < (sizes.length : Int)) = false := len_le 30 _ g1
  by_cases g2 : 90 < links.length
  · have e2 : decide ((90 : Int) < (links.length : Int)) = true := len_gt 90 _ g2
    clear h g0 g1 g2
    go_enter Try.func3, Try.ntmps3
    go_wp2
    go_ret
    exact ⟨rfl, Below.refl _ _⟩
  have e2 : decide ((90 : Int) < (links.length : Int)) = false := len_le 90 _ g2
  have g3 : 12 < l.length := by omega
  have e3 : decide ((12 : Int) < (l.length : Int)) = true := len_gt 12 _ g3
  clear h g0 g1 g2 g3
  go_enter Try.func3, Try.ntmps3
  go_wp2
  go_ret
  exact ⟨rfl, Below.refl _ _⟩

/-- The root's shape, in plain words. -/
theorem shape_known {H : HS} {nu : List Ob} (hi : HI H nu []) (hids : ∀ o ∈ nu, o.id ≠ 0) (ht : total nu ≤ 240) {x : Ob} (hx : x ∈ nu) :
    ∃ F was S, shp (nu ++ []) F (refV x) [] = some (was, S) ∧ was.length ≤ big ∧ S.Nodup := by
  have hA := hi.apart
  have hlook : ∀ v : Vl, (∃ y ∈ nu ++ [], v.n = (y.addr : Int)) → ∃ y, ChT.look (nu ++ []) v.n = some y := fun v ⟨y, hy, e⟩ => ⟨y, by rw [e]; exact look_of_mem hA hy⟩
  have hx' : x ∈ nu ++ [] := List.mem_append.2 (.inl hx)
  obtain ⟨out, s', h1, _⟩ := shp_some (O := nu ++ []) (fun o ho v hv hk => hlook v (hi.refs o ho v hv hk)) (unseen (nu ++ []) [] + 1) (refV x) [] (Nat.lt_succ_self _) (fun _ => hlook _ ⟨x, hx', rfl⟩)
  refine ⟨_, out, s', h1, ?_, ?_⟩
  · have h2 := (shp_long _ _ _ _ _ h1).2
    have h3 := weigh_all (nu ++ []) s'
    rw [total_append] at h3
    have h4 : total ([] : List Ob) = 0 := rfl
    unfold big
    omega
  · exact (seen_iff (named_of hi (fun o ho => hids o (by simpa using ho))) hA hi.refs (v := refV x) rfl ⟨x, hx', rfl⟩ h1).1

set_option maxRecDepth 100000 in
set_option maxHeartbeats 4000000 in
theorem law_in (h0 : 0 < sizes.length) (h30 : sizes.length ≤ 30) (h90 : links.length ≤ 90) (h12 : l.length ≤ 12) (a0 o0 a1 o1 a2 o2 : Nat)
    (k0 : oa0 = some ⟨a0, o0, none⟩) (k1 : 0 < links.length → oa1 = some ⟨a1, o1, none⟩) (k2 : 0 < l.length → oa2 = some ⟨a2, o2, none⟩)
    (ka0 : a0 < w.heap.size) (ka1 : a1 < w.heap.size) (ka2 : a2 < w.heap.size)
    (q0 : ∀ (i : Nat) (v : Int), sizes[i]? = some v → w.cell? ⟨a0, o0 + i, none⟩ = some (.int .i64 v))
    (q1 : ∀ (i : Nat) (v : Int), links[i]? = some v → w.cell? ⟨a1, o1 + i, none⟩ = some (.int .i64 v))
    (q2 : ∀ (i : Nat) (v : Int), l[i]? = some v → w.cell? ⟨a2, o2 + i, none⟩ = some (.int .i64 v)) :
    Calls Try.prog 3 #[.slice oa0 sizes.length c0, .slice oa1 links.length c1, .slice oa2 l.length c2] w fun e w' => e = .returned (.bool true) ∧ Below w.heap.size w w' := by
  subst k0
  have e0 := len_ne0 sizes.length (by omega)
  have e1 : decide ((30 : Int) < (sizes.length : Int)) = false := len_le 30 _ (by omega)
  have e2 : decide ((90 : Int) < (links.length : Int)) = false := len_le 90 _ (by omega)
  have e3 : decide ((12 : Int) < (l.length : Int)) = false := len_le 12 _ (by omega)
  have hnew := new_ok 400 2000 w (by decide) (by decide) (by decide) (by decide)
  have A0 := Lib.hid q0
  have A1 := Lib.hid q1
  have A2 := Lib.hid q2
  clear q0 q1 q2
  go_enter Try.func3, Try.ntmps3
  go_wp2_with fail
  refine hnew.mono ?_
  rintro e w1 ⟨rfl, hr1, hb1⟩
  clear hnew
  have hmoved := moved_any w1
  go_wp2_with fail
  refine hmoved.mono ?_
  rintro e w2 ⟨rfl, hb2⟩
  clear hmoved
  have hr2 := hr1.below hb2
  have hz1 := hb1.size
  have hz2 := hb2.size
  have hlt := hr1.lt (.inl rfl)
  have hb02 : Below w.heap.size w w2 := hb1.trans (hb2.mono hz1)
  have hY : Young w2 (w.heap.size + 2) w.heap.size (w.heap.size + 1) w.heap.size 0 (fresh 400 2000) [] := ⟨hr2, hi_fresh 400 2000, rfl, rfl, rfl, rfl, rfl, rfl, Nat.zero_le _, fun o ho => by cases ho⟩
  go_wp2_with fail
  refine alloc_loop _ _ _ _ _ _ _ _ _ _ _ _ _ _ _ _ _ _ _ _ _ _ _ _ _ _ _ _ _ _ _ _ _ _ _ _ _ _ _ _ _ _ _ _ _ _ _ _ _ _ _ _ _ _ _ _ _ _ _ _ _ _ _ _ _ _ _ _ _ _ _ _ _ _ _ _ _ _ _ _ _ _ _ _ _ _ _ _ _ _ _ _ _ _ _ _ _ _ _ _ _ _ _ _ _ _ _ _ _ _ _ _ _ _ _ _ _ _ _ _ _ _ _ _ _ _ _ _ _ _ _ _ _ _ _ _ _ _ _ _ _ _ _ _ _ _ _ _ _ _ _ _ _ _ _ _ _ _ _ _ _ _ _ _ _ _ _ _ _ _ _ _ _ _ _ _ _ _ _ _ _ _ _ _ _ _ _ a0 o0 c0 sizes w2 w2 (w.heap.size + 2) w.heap.size (w.heap.size + 1) w.heap.size h30 (fun i v hv => (hb02.cell (p := ⟨a0, o0 + i, none⟩) ka0).trans (A0.out i v hv)) (by omega) (by omega) ⟨Nat.zero_le _, _, _, hY, World.ownsRow_nil _ _ _ _, Turned.refl _ _⟩ ?_
  intro oo cc s11 s12 s54 s55 s56 s57 s58 s59 s60 s61 s62 s63 s64 s65 s66 s67 s68 s69 s70 s71 s72 s73 s74 s75 s76 s77 w3 hRA
  obtain ⟨_, H3, nu3, hY3, hrow3, hT3⟩ := hRA
  obtain ⟨g, cap, hg⟩ := row_slice hrow3 h0
  injection hg with hg1 _ hg3
  subst hg1 hg3
  clear hY
  go_wp2_with fail
  refine link_loop _ _ _ _ _ _ _ _ _ _ _ _ _ _ _ _ _ _ _ _ _ _ _ _ _ _ _ _ _ _ _ _ _ _ _ _ _ _ _ _ _ _ _ _ _ _ _ _ _ _ _ _ _ _ _ _ _ _ _ _ _ _ _ _ _ _ _ _ _ _ _ _ _ _ _ _ _ _ _ _ _ _ _ _ _ _ _ _ _ _ _ _ _ _ _ _ _ _ _ _ _ _ _ _ _ _ _ _ _ _ _ _ _ _ _ _ _ _ _ _ _ _ _ _ _ _ _ _ _ _ _ _ _ _ _ _ _ _ _ _ _ _ _ _ _ _ _ _ _ _ _ _ _ _ _ _ _ _ _ _ _ _ _ _ _ _ _ _ _ _ _ _ _ _ _ _ _ _ _ _ _ _ _ _ _ _ _ oa1 a1 o1 c1 links k1 w2 w3 (w.heap.size + 2) w.heap.size (w.heap.size + 1) w.heap.size sizes.length g cc h0 h30 h90 (fun i v hv => (hb02.cell (p := ⟨a1, o1 + i, none⟩) ka1).trans (A1.out i v hv)) (by omega) (by omega) ⟨_, _, hY3, hrow3, hT3⟩ ?_
  intro i2 s14 s15 s16 s78 s79 s80 s81 s82 s83 s84 s85 s86 s87 s88 s89 s90 s91 s92 s93 s94 s95 s96 s97 s98 s99 s100 s101 s102 s103 s104 s105 s106 s107 s108 s109 s110 s111 s112 s113 s114 s115 s116 s117 s118 s119 s120 s121 s122 s123 s124 s125 s126 s127 s128 s129 s130 s131 s132 s133 s134 s135 s136 s137 s138 s139 w4 hRB
  clear hY3 hrow3 hT3
  obtain ⟨H, nu, hY, hrow, hT4⟩ := hRB
  obtain ⟨x, hx⟩ : ∃ x, nu[0]? = some x := ⟨_, List.getElem?_eq_getElem (by have := hY.len; omega)⟩
  obtain ⟨r0, r1, r2⟩ := row_ref hrow hx h0
  have hz4 := hT4.size
  have hnn : (0 : Int) < (sizes.length : Int) := by omega
  have hxn : x ∈ nu := List.mem_of_getElem? hx
  obtain ⟨F, was, S, hshp, hwl, hSn⟩ := shape_known hY.hi hY.ids (by have := hY.tot; omega) hxn
  have hb5 := (Below.refl w4.heap.size w4).alloc (Nat.le_refl _) (.cells #[.int .i64 4, .int .i64 (x.addr : Int), .string ByteArray.empty] 34 (0, 0))
  have hmm := @run_makeMap Try.prog
  have hz5 : (w4.alloc (.cells #[.int .i64 4, .int .i64 (x.addr : Int), .string ByteArray.empty] 34 (0, 0))).heap.size = w4.heap.size + 1 := by simp
  have hS0 := sh_new (w4.alloc (.cells #[.int .i64 4, .int .i64 (x.addr : Int), .string ByteArray.empty] 34 (0, 0)))
  rw [hz5] at hS0
  have hb6 : Below w4.heap.size w4 ((w4.alloc (.cells #[.int .i64 4, .int .i64 (x.addr : Int), .string ByteArray.empty] 34 (0, 0))).alloc (.map #[] 0)) := hb5.alloc (by omega) _
  have hz6 : ((w4.alloc (.cells #[.int .i64 4, .int .i64 (x.addr : Int), .string ByteArray.empty] 34 (0, 0))).alloc (.map #[] 0)).heap.size = w4.heap.size + 2 := by simp
  have hrb6 : ((w4.alloc (.cells #[.int .i64 4, .int .i64 (x.addr : Int), .string ByteArray.empty] 34 (0, 0))).alloc (.map #[] 0)).heap[w4.heap.size]? = some (.cells #[.int .i64 4, .int .i64 (x.addr : Int), .string ByteArray.empty] 34 (0, 0)) := (Below.heap_alloc _ _ _ (by omega)).trans (heap_alloc_last w4 _)
  go_wp2_with fail
  generalize (w4.alloc (.cells #[.int .i64 4, .int .i64 (x.addr : Int), .string ByteArray.empty] 34 (0, 0))).alloc (.map #[] 0) = w6 at *
  have hlo : ∀ k, Owns (w.heap.size + 2) w.heap.size (w.heap.size + 1) (.slice none 0 0) (.slice none 0 0) k → w.heap.size ≤ k ∧ k < w2.heap.size := fun k hk => ⟨hY.hr.own_lo hk, by
    rcases hk with hk | hk | hk | hk | hk
    · omega
    · omega
    · omega
    · cases hk
    · cases hk⟩
  have hz3 := hT4.size
  have hnx := hY.next
  have htot := hY.tot
  have htn : total (nu ++ []) = total nu := by rw [List.append_nil]
  have hroom := hY.room
  refine (shape_any (w4.heap.size + 1) hY.hi (fun y hy => by
    have h1 := laid_in hY.hi.na (show y ∈ nu by simpa using hy)
    unfold big
    omega) (by unfold big; omega) (fun ho => by have := hlo _ ho; omega) F (refV x) [] was S w6 (hY.hr.below hb6) hS0 (by
      have h1 : ChTa.unseen (nu ++ []) [] ≤ (nu ++ []).length := List.length_filter_le _ _
      have h2 := length_le_total (nu ++ [])
      unfold big
      simp only [List.length_nil]
      omega) hshp hwl (fun _ => ⟨x, List.mem_append.2 (.inl hxn), rfl⟩)).mono ?_
  rintro e w7 ⟨o, c, rfl, hrow7, hS7, hT7, _⟩
  obtain ⟨wg, c', hg⟩ := row_slice hrow7 (ChTa.shp_ne hshp)
  injection hg with e1 _ e3
  subst e1 e3
  have hz7 := hT7.size
  have hwg := own_lt hrow7 (k := wg) rfl
  have hrb7 := (hT7.block w4.heap.size (by omega) (by omega)).trans hrb6
  have hb26 : Below w.heap.size w w6 := (hb02.trans (hT4.below (by omega) (fun k hk => by omega))).trans (hb6.mono (by omega))
  have hb7 : Below w.heap.size w w7 := hb26.trans (hT7.below (by omega) (fun k hk => by omega))
  have hCol : Col w7 (w.heap.size + 2) w.heap.size (w.heap.size + 1) (.slice none 0 0) (.slice none 0 0) w.heap.size H nu [] w4.heap.size x F was S 0 := {
    hr := (hY.hr.below hb6).turned hT7 (fun k hk => by have := hlo k hk; omega)
    hi := hY.hi
    room := hroom
    most := hY.most
    next := by omega
    mins := by rw [hY.mins]; exact Nat.le_refl _
    majs := by rw [hY.majs]; exact Nat.le_refl _
    rem := by
      have h1 := hY.hr.rem
      rcases h1.2 with ⟨_, h2⟩ | ⟨g, cap, cur, h2, _⟩
      · exact List.length_eq_zero_iff.1 h2
      · cases h2
    tot := by
      show total nu + 0 ≤ 240
      omega
    ids := fun o ho => hY.ids o (by simpa using ho)
    xin := List.mem_append.2 (.inl hxn)
    root := ⟨cell_of_block hrb7 rfl, cell_of_block hrb7 rfl, cell_of_block hrb7 rfl, frozen_of_block hrb7, _, _, hrb7⟩
    out := fun ho => by have := hlo _ ho; omega
    shp := hshp }
  have hwas : ∀ (i : Nat) (v : Int), was[i]? = some v → w7.cell? ⟨wg, i, none⟩ = some (.int .i64 v) := fun j v hv => by
    have hj := (List.getElem?_eq_some_iff.1 hv).1
    rw [hrow7.cellAt j (by omega), List.getElem?_map, hv]
    rfl
  have hK0 : RelK w7 (w.heap.size + 2) w.heap.size w4.heap.size F was S (fun k => k < w.heap.size ∨ k = w4.heap.size + 1 ∨ k = wg) 0 w7 := ⟨_, _, _, _, H, nu, [], x, hCol, fun k hk => ⟨fun ho => by have := hlo k ho; omega, rfl⟩, Nat.le_refl _, Below.refl _ _⟩
  clear hCol hY hrow hT4 hrow7 hT7 hrb7 hrb6 hb26
  go_wp2_with fail
  refine col_loop _ _ _ _ _ _ _ _ _ _ _ _ _ _ _ _ _ _ _ _ _ _ _ _ _ _ _ _ _ _ _ _ _ _ _ _ _ _ _ _ _ _ _ _ _ _ _ _ _ _ _ _ _ _ _ _ _ _ _ _ _ _ _ _ _ _ _ _ _ _ _ _ _ _ _ _ _ _ _ _ _ _ _ _ _ _ _ _ _ _ _ _ _ _ _ _ _ _ _ _ _ _ _ _ _ _ _ _ _ _ _ _ _ _ _ _ _ _ _ _ _ _ _ _ _ _ _ _ _ _ _ _ _ _ _ _ _ _ _ _ _ _ _ _ _ _ _ _ _ _ _ _ _ _ _ _ _ _ _ _ _ _ _ _ _ _ _ _ _ _ _ _ _ _ _ _ _ _ _ _ _ _ _ _ _ oa2 a2 o2 c2 l k2 (w4.heap.size + 1) wg c w7 w7 (w.heap.size + 2) w.heap.size w4.heap.size F was S (fun k => k < w.heap.size ∨ k = w4.heap.size + 1 ∨ k = wg) h12 hwl hSn (fun i v hv => (hb7.cell (p := ⟨a2, o2 + i, none⟩) ka2).trans (A2.out i v hv)) hwas hS7 (.inl ka2) (.inr (.inl rfl)) (.inr (.inr rfl)) (by omega) (by omega) (fun k hk => by omega) hK0 ?_
  intro s21 s148 s149 s150 s151 s152 s153 s154 s155 s156 s157 s158 s159 s160 s161 s162 s163 s164 s165 s166 s167 s168 s169 s170 s171 s172 s173 s174 s175 s176 s177 s178 s179 s180 s181 s182 s183 s184 s185 s186 s187 s188 s189 s190 w8 hRK
  obtain ⟨_, _, _, _, _, _, _, _, _, _, _, hB8⟩ := hRK
  have A8 := Lib.hid (hb7.trans hB8)
  clear hB8 hK0 hwas
  go_wp2
  go_ret
  exact ⟨rfl, A8.out⟩
end Go.Proofs.Ythbkklnahhdgcaa.ChTn
