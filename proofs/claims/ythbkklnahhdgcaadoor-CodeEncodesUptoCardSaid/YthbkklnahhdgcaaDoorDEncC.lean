/-
  Package code's Encode, at an image that lies in memory.
-/
import Derived.Test.YthbkklnahhdgcaaDoorDMC
import Derived.Test.YthbkklnahhdgcaaDoorDCodeO
import Derived.Test.YthbkklnahhdgcaaDoorDMA
namespace Go.Proofs.YthbkklnahhdgcaaDoor.EncC
open Go Go.Proofs Go.RowKit Lib CodeR CodeA CodeB CodeL CodeO EncA EncB EncS

theorem Bu.apart {w : World} {B : Nat} {v : Value} {l : List UInt8} (h : Bu w B v l) {E : Nat} {c : Array Value} {T : TypeId} {f : Nat × Nat} (hE : w.heap[E]? = some (.cells c T f)) (hT : T ≠ 5) : ¬ Ow v E := by
  intro ho
  obtain ⟨cur, h2⟩ := own_block h ho
  rw [hE] at h2
  cases h2
  exact hT rfl
theorem Bu.base {w : World} {B : Nat} {v : Value} {l : List UInt8} (h : Bu w B v l) {k : Nat} (ho : Ow v k) : B ≤ k := (World.ownsRow.lt h k ho).1
theorem Bu.drew {w : World} {B : Nat} {v : Value} {l : List UInt8} (h : Bu w B v l) : Bu w.drew B v l := h
theorem Bu.alloc {w : World} {B : Nat} {v : Value} {l : List UInt8} (h : Bu w B v l) (o : Obj) : Bu (w.alloc o) B v l := World.ownsRow.alloc h o
/-- Where an encoding stands: the row, and that nothing below turned. -/
structure St (B : Nat) (w0 w : World) (v : Value) (l : List UInt8) : Prop where
  row : Bu w B v l
  low : Below B w0 w
  le : B ≤ w.heap.size
theorem St.step {B : Nat} {w0 w w' : World} {v v' : Value} {l l' : List UInt8} (h : St B w0 w v l) (k : Grew B w v w' v' l') : St B w0 w' v' l' :=
  ⟨k.row, h.low.trans ⟨k.turned.os, k.turned.tape, k.turned.output, k.turned.size, fun i hi => k.turned.block i (Nat.lt_of_lt_of_le hi h.le) (fun ho => by have := Bu.base h.row ho; omega)⟩, Nat.le_trans h.le k.turned.size⟩
theorem St.drew {B : Nat} {w0 w : World} {v : Value} {l : List UInt8} (h : St B w0 w v l) : St B w0 w.drew v l := ⟨h.row, ⟨h.low.os, h.low.tape, h.low.output, h.low.size, h.low.block⟩, h.le⟩
theorem St.alloc {B : Nat} {w0 w : World} {v : Value} {l : List UInt8} (h : St B w0 w v l) (o : Obj) : St B w0 (w.alloc o) v l := ⟨h.row.alloc o, h.low.alloc h.le o, Nat.le_trans h.le (by simp)⟩
/-- A block of another type stays. -/
theorem St.keep {B : Nat} {w0 w w' : World} {v v' : Value} {l l' : List UInt8} (h : St B w0 w v l) (k : Grew B w v w' v' l') {E : Nat} {c : Array Value} {T : TypeId} {f : Nat × Nat} (hE : w.heap[E]? = some (.cells c T f)) (hT : T ≠ 5) : w'.heap[E]? = some (.cells c T f) :=
  (k.turned.block E (lt_of_block hE) (Bu.apart h.row hE hT)).trans hE

theorem head_row (w : World) : Hd (w.alloc (.cells #[.int .u8 82, .int .u8 87, .int .u8 78, .int .u8 68] 5 (4, 5))) w.heap.size (.slice (some ⟨w.heap.size, 0, none⟩) 4 4) head :=
  ⟨w.heap.size, rfl, Nat.le_refl _, by decide, heap_alloc_new w _⟩
theorem head_tn {w w1 w2 : World} {v v2 : Value} {B : Nat} {l l2 : List UInt8} (hB : B ≤ w.heap.size) (hb : Below B w w1) (h1 : Hd w1 B v l) (k : Grew B w1 v w2 v2 l2) : St B w w2 v2 l2 := by
  refine ⟨k.row, hb.trans ⟨k.turned.os, k.turned.tape, k.turned.output, k.turned.size, fun i hi => k.turned.block i (by have := hb.size; omega) (fun ho => ?_)⟩, by have := hb.size; have := k.turned.size; omega⟩
  obtain ⟨g, rfl, hg, _⟩ := h1
  have h2 : g = i := Option.some.inj ho
  omega

theorem drop_flat {α : Type} (f : α → List UInt8) {xs : List α} {k : Nat} {x : α} (h : xs[k]? = some x) : (xs.drop k).flatMap f = f x ++ (xs.drop (k + 1)).flatMap f := by
  obtain ⟨hlt, hx⟩ := List.getElem?_eq_some_iff.mp h
  rw [List.drop_eq_getElem_cons hlt, hx, List.flatMap_cons]
theorem drop_all {α : Type} (f : α → List UInt8) (xs : List α) : (xs.drop xs.length).flatMap f = [] := by rw [List.drop_length]; rfl
theorem text_le {l r body : List UInt8} {s : ByteArray} (h : l ++ (txt s ++ r) = body) {N : Nat} (hN : body.length ≤ N) : s.size ≤ N := by
  have h2 : (sl s).length = s.size := rfl
  rw [← h, List.length_append, List.length_append, txt, List.length_append, h2] at hN
  omega
theorem len_of {l r body : List UInt8} (h : l ++ r = body) {N : Nat} (hN : body.length ≤ N) : l.length ≤ N := by
  rw [← h, List.length_append] at hN
  omega

set_option maxRecDepth 100000 in
set_option maxHeartbeats 20000000 in
theorem Encode_any (mb mo : Nat) (m : Im) (w : World) (hm : Row w mb mo m.vals) (hi : ImIn w m) (hok : ImOk m) (hnm : ∀ c ∈ m.classes, c.names.length = c.methods.length)
    (_hst : ∀ s : ByteArray, s.size ≤ 35184372088832 → True) (hN : (body m).length ≤ 35184372088832) :
    Calls Tryd.prog 26 #[.pointer (some ⟨mb, mo, none⟩)] w fun e w' => ∃ v', e = .returned v' ∧ Bu w' w.heap.size v' (enc m) ∧ Below w.heap.size w w' := by
  have c0 := (im_cells hm).1
  have c1 := (im_cells hm).2.1
  have c2 := (im_cells hm).2.2
  have hmlt := World.block_lt_of_cell? w _ c0
  have l0 := hi.funcs.len
  have l1 := hi.consts.len
  have l2 := hi.classes.len
  rw [List.length_map] at l0 l1 l2
  unfold Sl.val at c0 c1 c2
  rw [l0] at c0
  rw [l1] at c1
  rw [l2] at c2
  have a0 := hi.funcs.addr
  have a1 := hi.consts.addr
  have a2 := hi.classes.addr
  obtain ⟨oa0, ho0⟩ : ∃ oa, m.funcsS.oa = oa := ⟨_, rfl⟩
  obtain ⟨oa1, ho1⟩ : ∃ oa, m.constsS.oa = oa := ⟨_, rfl⟩
  obtain ⟨oa2, ho2⟩ : ∃ oa, m.classesS.oa = oa := ⟨_, rfl⟩
  rw [ho0] at c0 a0
  rw [ho1] at c1 a1
  rw [ho2] at c2 a2
  rw [l0] at a0
  rw [l1] at a1
  rw [l2] at a2
  clear ho0 ho1 ho2
  have k0 := hok.lens.1
  have k1 := hok.lens.2.1
  have k2 := hok.lens.2.2
  have n0 := num_len (n := (m.funcs.length : Int)) (by omega) (by omega)
  have n1 := num_len (n := (m.consts.length : Int)) (by omega) (by omega)
  have n2 := num_len (n := (m.classes.length : Int)) (by omega) (by omega)
  have d1 := alloc_cell c1
  have hb1 : Below w.heap.size w (w.alloc (.cells #[.int .u8 82, .int .u8 87, .int .u8 78, .int .u8 68] 5 (4, 5))) := (Below.refl _ _).alloc (Nat.le_refl _) _
  have hr := head_row w
  have hbody : head ++ (num m.consts.length ++ (m.consts.flatMap cn ++ (num m.classes.length ++ (m.classes.flatMap cl ++ (num m.funcs.length ++ m.funcs.flatMap fc))))) = body m := by
    unfold body
    simp only [List.append_assoc]
  unfold enc
  generalize body m = BD at *
  have hnA : Aside (∀ c ∈ m.classes, c.names.length = c.methods.length) := hnm
  clear hnm
  have kc := fun (w : World) (C : Array Value) (n c : Nat) => Go.Lib.run_convert_bytes_const (P := Tryd.prog) w 64 5 C n c Tryd.underlying64 Tryd.underlying5
  go_enter Tryd.func26, Tryd.ntmps26
  go_wp2_with fail
  clear kc
  generalize w.alloc (.cells #[.int .u8 82, .int .u8 87, .int .u8 78, .int .u8 68] 5 (4, 5)) = w1 at *
  refine (put_any w.heap.size _ head (m.consts.length : Int) w1 (Or.inr hr) hb1.size (by omega) (by omega) (by decide)).mono ?_
  rintro e w2 ⟨v2, rfl, hG⟩
  have hS := head_tn (Nat.le_refl _) hb1 hr hG
  have d1 := (hS.low.cell (p := ⟨mb, mo + 1, none⟩) hmlt).trans c1
  rw [← List.append_assoc] at hbody
  generalize head ++ num (m.consts.length : Int) = L2 at *
  clear hG hr hb1
  go_wp2_with fail
  obtain ⟨T1, hT1⟩ : ∃ T, num (m.classes.length : Int) ++ (m.classes.flatMap cl ++ (num (m.funcs.length : Int) ++ m.funcs.flatMap fc)) = T := ⟨_, rfl⟩
  rw [hT1] at hbody
  have z1 := num_len (n := 1) (by decide) (by decide)
  have z0 := num_len (n := 0) (by decide) (by decide)
  have hrow1 := fun (k : Nat) (x : Cn) (hx : m.consts[k]? = some x) => hi.consts.row k x.vals (by rw [List.getElem?_map, hx]; rfl)
  go_loopw [3, 37] (fun s3 s37 wr => ∃ (k : Nat) (l : List UInt8) (v' : Value), v' = s3 ∧ s37 = .int .i64 (k : Int) ∧ k ≤ m.consts.length ∧ St w.heap.size w wr v' l ∧ l ++ ((m.consts.drop k).flatMap cn ++ T1) = BD) (fun _ s37 _ => m.consts.length - (intOf s37).toNat)
  case atStart => exact ⟨0, L2, v2, rfl, rfl, Nat.zero_le _, hS, hbody⟩
  case round =>
    clear hS hbody d1
    obtain ⟨k, l, v', rfl, rfl, hk, hS, heq⟩ := hrel
    have hll := len_of heq hN
    by_cases hkn : k < m.consts.length
    · obtain ⟨x, hx⟩ : ∃ x, m.consts[k]? = some x := ⟨_, List.getElem?_eq_getElem hkn⟩
      have hkd : decide ((k : Int) < (m.consts.length : Int)) = true := by simp; omega
      obtain rfl := a1 (by omega)
      have hxr : Row wr m.constsS.b (m.constsS.o + k * 3) x.vals := (hrow1 k x hx).below hS.low (Nat.le_refl _)
      have e0 : wr.cell? ⟨m.constsS.b, m.constsS.o + k * 3, none⟩ = some (.bool x.text) := hxr 0 _ rfl
      have e1 : wr.cell? ⟨m.constsS.b, m.constsS.o + k * 3 + 1, none⟩ = some (.string x.s) := hxr 1 _ rfl
      have e2 : wr.cell? ⟨m.constsS.b, m.constsS.o + k * 3 + 2, none⟩ = some (.int .i64 x.n) := hxr 2 _ rfl
      have hxo := hok.cn x (List.mem_of_getElem? hx)
      unfold CnOk i64 at hxo
      rw [drop_flat cn hx, List.append_assoc] at heq
      have hE := heap_alloc_new wr (.cells #[.bool x.text, .string x.s, .int .i64 x.n] 68)
      have hS3 := hS.alloc (.cells #[.bool x.text, .string x.s, .int .i64 x.n] 68)
      clear hrow1 a1 hxr
      cases htx : x.text
      · have hcn : cn x = num 0 ++ num x.n := by unfold cn; rw [htx]; rfl
        rw [hcn] at heq
        have nx := num_len (n := x.n) hxo.2.1 hxo.2.2
        rw [htx] at e0 hE hS3
        go_wp2_with fail
        generalize wr.alloc (.cells #[.bool false, .string x.s, .int .i64 x.n] 68) = w3 at *
        generalize wr.heap.size = E at *
        have p2 : w3.cell? ⟨E, 2, none⟩ = some (.int .i64 x.n) := cell_of_block hE rfl
        have hl4 : (l ++ num 0).length ≤ 35184372088842 := by rw [List.length_append]; omega
        refine RegT.begin (S := fun wz => wz.cell? ⟨E, 2, none⟩ = some (.int .i64 x.n)) (L := 5) (by kernel_rfl) ?_ (fun hHeld => ?_)
        · (try dsimp only); go_keep
        refine RegT.take (i := 0) (v := ?_) rfl (by kernel_rfl) (by kernel_rfl) (by kernel_rfl) (by kernel_rfl) (fun _ _ _ h => h) (Or.inl ⟨by rfl, ?_⟩) (by assumption) ?_
        rotate_left
        · intro w hSw; (try dsimp only at hSw); go_simp; first | done | with_reducible rfl
        try simp only [Act.put, List.setIfInBounds_toArray, List.set_cons_zero, List.set_cons_succ]
        refine RegT.take (i := 2) (v := ?_) rfl (by kernel_rfl) (by kernel_rfl) (by kernel_rfl) (by kernel_rfl) (fun _ _ _ h => h) (Or.inl ⟨by rfl, ?_⟩) (by assumption) ?_
        rotate_left
        · intro w hSw; (try dsimp only at hSw); go_simp; first | done | with_reducible rfl
        try simp only [Act.put, List.setIfInBounds_toArray, List.set_cons_zero, List.set_cons_succ]
        refine RegT.take (i := 3) (v := ?_) rfl (by kernel_rfl) (by kernel_rfl) (by kernel_rfl) (by kernel_rfl) (fun _ _ _ h => h) (Or.inl ⟨by rfl, ?_⟩) (by assumption) ?_
        rotate_left
        · intro w hSw; (try dsimp only at hSw); go_simp; first | done | with_reducible rfl
        try simp only [Act.put, List.setIfInBounds_toArray, List.set_cons_zero, List.set_cons_succ]
        refine RegT.one (i := 1) (by kernel_rfl) rfl (fun K hK => ?_)
        go_simp
        refine (put_any w.heap.size v' l 0 _ (Or.inl hS3.drew.row) hS3.drew.le (by decide) (by decide) (by omega)).mono ?_
        rintro e w4 ⟨v4, rfl, hG4⟩
        have hS4 := hS3.drew.step hG4
        have hE4 := hS3.drew.keep hG4 hE (by decide)
        refine hK.out _ _ (cell_of_block hE4 (i := 2) rfl) (fun hHeld => ?_)
        clear hK K
        try simp only [Act.put, List.setIfInBounds_toArray, List.set_cons_zero, List.set_cons_succ]
        refine RegT.one (i := 4) (by kernel_rfl) rfl (fun K hK => ?_)
        go_simp
        refine (put_any w.heap.size v4 (l ++ num 0) x.n _ (Or.inl hS4.row) hS4.le hxo.2.1 hxo.2.2 (by omega)).mono ?_
        rintro e w5 ⟨v5, rfl, hG5⟩
        have hS5 := hS4.step hG5
        have hE5 := hS4.keep hG5 hE4 (by decide)
        refine hK.out _ _ (cell_of_block hE5 (i := 2) rfl) (fun hHeld => ?_)
        clear hK K
        try simp only [Act.put, List.setIfInBounds_toArray, List.set_cons_zero, List.set_cons_succ]
        refine RegT.last (by kernel_rfl) rfl (by kernel_rfl) (fun K hK => ?_)
        go_simp
        refine hK.out _ _ ?_
        clear hK K
        try simp only [Act.put, List.setIfInBounds_toArray, List.set_cons_zero, List.set_cons_succ]
        go_wp2
        go_roundw
        case rel => exact ⟨k + 1, _, _, rfl, by simp, by omega, hS5, by (simp only [List.append_assoc] at heq ⊢; exact heq)⟩
        case measure => simp [intOf]; omega
      · have hcn : cn x = num 1 ++ txt x.s := by unfold cn; rw [htx]; rfl
        rw [hcn] at heq
        have hxs : x.s.size ≤ 35184372088832 := by
          have h := len_of (l := l ++ (num 1 ++ num x.s.size) ++ sl x.s) (r := (m.consts.drop (k + 1)).flatMap cn ++ T1) (body := BD) (by unfold txt at heq; simp only [List.append_assoc] at heq ⊢; exact heq) hN
          rw [List.length_append] at h
          have h2 : (sl x.s).length = x.s.size := rfl
          omega
        rw [htx] at e0 hE hS3
        go_wp2_with fail
        generalize wr.alloc (.cells #[.bool true, .string x.s, .int .i64 x.n] 68) = w3 at *
        generalize wr.heap.size = E at *
        have p1 : w3.cell? ⟨E, 1, none⟩ = some (.string x.s) := cell_of_block hE rfl
        have hl4 : (l ++ num 1).length ≤ 35184372088842 := by rw [List.length_append]; omega
        refine RegT.begin (S := fun wz => wz.cell? ⟨E, 1, none⟩ = some (.string x.s)) (L := 5) (by kernel_rfl) ?_ (fun hHeld => ?_)
        · (try dsimp only); go_keep
        refine RegT.take (i := 0) (v := ?_) rfl (by kernel_rfl) (by kernel_rfl) (by kernel_rfl) (by kernel_rfl) (fun _ _ _ h => h) (Or.inl ⟨by rfl, ?_⟩) (by assumption) ?_
        rotate_left
        · intro w hSw; (try dsimp only at hSw); go_simp; first | done | with_reducible rfl
        try simp only [Act.put, List.setIfInBounds_toArray, List.set_cons_zero, List.set_cons_succ]
        refine RegT.take (i := 2) (v := ?_) rfl (by kernel_rfl) (by kernel_rfl) (by kernel_rfl) (by kernel_rfl) (fun _ _ _ h => h) (Or.inl ⟨by rfl, ?_⟩) (by assumption) ?_
        rotate_left
        · intro w hSw; (try dsimp only at hSw); go_simp; first | done | with_reducible rfl
        try simp only [Act.put, List.setIfInBounds_toArray, List.set_cons_zero, List.set_cons_succ]
        refine RegT.take (i := 3) (v := ?_) rfl (by kernel_rfl) (by kernel_rfl) (by kernel_rfl) (by kernel_rfl) (fun _ _ _ h => h) (Or.inl ⟨by rfl, ?_⟩) (by assumption) ?_
        rotate_left
        · intro w hSw; (try dsimp only at hSw); go_simp; first | done | with_reducible rfl
        try simp only [Act.put, List.setIfInBounds_toArray, List.set_cons_zero, List.set_cons_succ]
        refine RegT.one (i := 1) (by kernel_rfl) rfl (fun K hK => ?_)
        go_simp
        refine (put_any w.heap.size v' l 1 _ (Or.inl hS3.drew.row) hS3.drew.le (by decide) (by decide) (by omega)).mono ?_
        rintro e w4 ⟨v4, rfl, hG4⟩
        have hS4 := hS3.drew.step hG4
        have hE4 := hS3.drew.keep hG4 hE (by decide)
        refine hK.out _ _ (cell_of_block hE4 (i := 1) rfl) (fun hHeld => ?_)
        clear hK K
        try simp only [Act.put, List.setIfInBounds_toArray, List.set_cons_zero, List.set_cons_succ]
        refine RegT.one (i := 4) (by kernel_rfl) rfl (fun K hK => ?_)
        go_simp
        refine (putText_any w.heap.size v4 (l ++ num 1) x.s _ hS4.row hS4.le (by omega) hxs).mono ?_
        rintro e w5 ⟨v5, rfl, hG5⟩
        have hS5 := hS4.step hG5
        have hE5 := hS4.keep hG5 hE4 (by decide)
        refine hK.out _ _ (cell_of_block hE5 (i := 1) rfl) (fun hHeld => ?_)
        clear hK K
        try simp only [Act.put, List.setIfInBounds_toArray, List.set_cons_zero, List.set_cons_succ]
        refine RegT.last (by kernel_rfl) rfl (by kernel_rfl) (fun K hK => ?_)
        go_simp
        refine hK.out _ _ ?_
        clear hK K
        try simp only [Act.put, List.setIfInBounds_toArray, List.set_cons_zero, List.set_cons_succ]
        go_wp2
        go_roundw
        case rel => exact ⟨k + 1, _, _, rfl, by simp, by omega, hS5, by (simp only [List.append_assoc] at heq ⊢; exact heq)⟩
        case measure => simp [intOf]; omega
    · obtain rfl : k = m.consts.length := by omega
      have hkd : decide ((m.consts.length : Int) < (m.consts.length : Int)) = false := by simp
      rw [drop_all, List.nil_append] at heq
      have d2 := (hS.low.cell (p := ⟨mb, mo + 2, none⟩) hmlt).trans c2
      clear hrow1 a1
      go_wp2_with fail
      refine (put_any w.heap.size v' l (m.classes.length : Int) wr (Or.inl hS.row) hS.le (by omega) (by omega) (by omega)).mono ?_
      rintro e w2 ⟨v2, rfl, hG⟩
      have hS2 := hS.step hG
      have d2 := (hS2.low.cell (p := ⟨mb, mo + 2, none⟩) hmlt).trans c2
      rw [← hT1, ← List.append_assoc] at heq
      generalize l ++ num (m.classes.length : Int) = L3 at *
      obtain ⟨T2, hT2⟩ : ∃ T, num (m.funcs.length : Int) ++ m.funcs.flatMap fc = T := ⟨_, rfl⟩
      rw [hT2] at heq
      have hrow2 := fun (k : Nat) (x : Cl) (hx : m.classes[k]? = some x) => hi.classes.row k x.vals (by rw [List.getElem?_map, hx]; rfl)
      clear hG hS hT1
      go_wp2_with fail
      go_loopw [3, 66] (fun s3 s66 wr => ∃ (k : Nat) (l : List UInt8) (v' : Value), v' = s3 ∧ s66 = .int .i64 (k : Int) ∧ k ≤ m.classes.length ∧ St w.heap.size w wr v' l ∧ l ++ ((m.classes.drop k).flatMap cl ++ T2) = BD) (fun _ s66 _ => m.classes.length - (intOf s66).toNat)
      case atStart => exact ⟨0, L3, v2, rfl, rfl, Nat.zero_le _, hS2, heq⟩
      case round =>
        clear hS2 heq d2
        obtain ⟨k, l, v', rfl, rfl, hk, hS, heq⟩ := hrel
        have hll := len_of heq hN
        by_cases hkn : k < m.classes.length
        · obtain ⟨x, hx⟩ : ∃ x, m.classes[k]? = some x := ⟨_, List.getElem?_eq_getElem hkn⟩
          have hxm := List.mem_of_getElem? hx
          have hkd : decide ((k : Int) < (m.classes.length : Int)) = true := by simp; omega
          obtain rfl := a2 (by omega)
          have hxr : Row wr m.classesS.b (m.classesS.o + k * 5) x.vals := (hrow2 k x hx).below hS.low (Nat.le_refl _)
          have hcl := hi.cl x hxm
          have hco := hok.cl x hxm
          have hnx : Aside (x.names.length = x.methods.length) := hnA.out x hxm
          have lF := hcl.fields.len
          have lN := hcl.names.len
          have lM := hcl.methods.len
          have aF := hcl.fields.addr
          have aN := hcl.names.addr
          have aM := hcl.methods.addr
          rw [List.length_map] at lF lN lM
          rw [lF] at aF
          rw [lN] at aN
          rw [lM] at aM
          have rF := fun (k : Nat) (s : ByteArray) (h : x.fields[k]? = some s) => hcl.fields.row k [.string s] (by rw [List.getElem?_map, h]; rfl)
          have rN := fun (k : Nat) (s : ByteArray) (h : x.names[k]? = some s) => hcl.names.row k [.string s] (by rw [List.getElem?_map, h]; rfl)
          have rM := fun (k : Nat) (n : Int) (h : x.methods[k]? = some n) => hcl.methods.row k [.int .i64 n] (by rw [List.getElem?_map, h]; rfl)
          simp only [Nat.mul_one] at rF rN rM
          have kF := hco.lens.1
          have kN := hco.lens.2.1
          have kM := hco.lens.2.2
          have nF := num_len (n := (x.fields.length : Int)) (by omega) (by omega)
          have nN := num_len (n := (x.names.length : Int)) (by omega) (by omega)
          have hab := hco.above
          unfold i64 at hab
          have nA := num_len hab.1 hab.2
          have e0 : wr.cell? ⟨m.classesS.b, m.classesS.o + k * 5, none⟩ = some (.string x.name) := hxr 0 _ rfl
          have e1 : wr.cell? ⟨m.classesS.b, m.classesS.o + k * 5 + 1, none⟩ = some (.int .i64 x.above) := hxr 1 _ rfl
          have e2 : wr.cell? ⟨m.classesS.b, m.classesS.o + k * 5 + 2, none⟩ = some (.slice x.fieldsS.oa x.fieldsS.n x.fieldsS.c) := hxr 2 _ rfl
          have e3 : wr.cell? ⟨m.classesS.b, m.classesS.o + k * 5 + 3, none⟩ = some (.slice x.namesS.oa x.namesS.n x.namesS.c) := hxr 3 _ rfl
          have e4 : wr.cell? ⟨m.classesS.b, m.classesS.o + k * 5 + 4, none⟩ = some (.slice x.methodsS.oa x.methodsS.n x.methodsS.c) := hxr 4 _ rfl
          rw [lF] at e2
          rw [lN] at e3
          rw [lM] at e4
          obtain ⟨oF, hoF⟩ : ∃ oa, x.fieldsS.oa = oa := ⟨_, rfl⟩
          obtain ⟨oN, hoN⟩ : ∃ oa, x.namesS.oa = oa := ⟨_, rfl⟩
          obtain ⟨oM, hoM⟩ : ∃ oa, x.methodsS.oa = oa := ⟨_, rfl⟩
          rw [hoF] at e2 aF
          rw [hoN] at e3 aN
          rw [hoM] at e4 aM
          clear hoF hoN hoM hcl hco lF lN lM hxr
          rw [drop_flat cl hx, List.append_assoc] at heq
          obtain ⟨T3, hT3⟩ : ∃ T, (m.classes.drop (k + 1)).flatMap cl ++ T2 = T := ⟨_, rfl⟩
          rw [hT3] at heq
          have heq2 : l ++ (txt x.name ++ (num x.above ++ (num x.fields.length ++ (x.fields.flatMap txt ++ (num x.names.length ++ ((x.names.zip x.methods).flatMap nm ++ T3)))))) = BD := by
            unfold cl at heq
            simp only [List.append_assoc] at heq
            exact heq
          clear heq
          have hxs : x.name.size ≤ 35184372088832 := text_le heq2 hN
          have hE := heap_alloc_new wr (.cells #[.string x.name, .int .i64 x.above, .slice oF x.fields.length x.fieldsS.c, .slice oN x.names.length x.namesS.c, .slice oM x.methods.length x.methodsS.c] 63)
          have hS3 := hS.alloc (.cells #[.string x.name, .int .i64 x.above, .slice oF x.fields.length x.fieldsS.c, .slice oN x.names.length x.namesS.c, .slice oM x.methods.length x.methodsS.c] 63)
          clear hrow2 a2
          go_wp2_with fail
          generalize wr.alloc (.cells #[.string x.name, .int .i64 x.above, .slice oF x.fields.length x.fieldsS.c, .slice oN x.names.length x.namesS.c, .slice oM x.methods.length x.methodsS.c] 63) = w3 at *
          generalize wr.heap.size = E at *
          have p0 : w3.cell? ⟨E, 0, none⟩ = some (.string x.name) := cell_of_block hE rfl
          have p1 : w3.cell? ⟨E, 1, none⟩ = some (.int .i64 x.above) := cell_of_block hE rfl
          have hl4 : (l ++ txt x.name).length ≤ 70368744177664 := by
            have h := len_of (l := l ++ txt x.name) (body := BD) (by rw [List.append_assoc]; exact heq2) hN
            omega
          refine RegT.begin (S := fun wz => wz.cell? ⟨E, 0, none⟩ = some (.string x.name) ∧ wz.cell? ⟨E, 1, none⟩ = some (.int .i64 x.above)) (L := 7) (by kernel_rfl) ?_ (fun hHeld => ?_)
          · (try dsimp only); go_keep
          refine RegT.take (i := 0) (v := ?_) rfl (by kernel_rfl) (by kernel_rfl) (by kernel_rfl) (by kernel_rfl) (fun _ _ _ h => h) (Or.inl ⟨by rfl, ?_⟩) (by assumption) ?_
          rotate_left
          · intro w hSw; (try dsimp only at hSw); go_simp; first | done | with_reducible rfl
          try simp only [Act.put, List.setIfInBounds_toArray, List.set_cons_zero, List.set_cons_succ]
          refine RegT.take (i := 1) (v := ?_) rfl (by kernel_rfl) (by kernel_rfl) (by kernel_rfl) (by kernel_rfl) (fun _ _ _ h => h) (Or.inl ⟨by rfl, ?_⟩) (by assumption) ?_
          rotate_left
          · intro w hSw; (try dsimp only at hSw); go_simp; first | done | with_reducible rfl
          try simp only [Act.put, List.setIfInBounds_toArray, List.set_cons_zero, List.set_cons_succ]
          refine RegT.take (i := 2) (v := ?_) rfl (by kernel_rfl) (by kernel_rfl) (by kernel_rfl) (by kernel_rfl) (fun _ _ _ h => h) (Or.inl ⟨by rfl, ?_⟩) (by assumption) ?_
          rotate_left
          · intro w hSw; (try dsimp only at hSw); go_simp; first | done | with_reducible rfl
          try simp only [Act.put, List.setIfInBounds_toArray, List.set_cons_zero, List.set_cons_succ]
          refine RegT.take (i := 4) (v := ?_) rfl (by kernel_rfl) (by kernel_rfl) (by kernel_rfl) (by kernel_rfl) (fun _ _ _ h => h) (Or.inl ⟨by rfl, ?_⟩) (by assumption) ?_
          rotate_left
          · intro w hSw; (try dsimp only at hSw); go_simp; first | done | with_reducible rfl
          try simp only [Act.put, List.setIfInBounds_toArray, List.set_cons_zero, List.set_cons_succ]
          refine RegT.take (i := 5) (v := ?_) rfl (by kernel_rfl) (by kernel_rfl) (by kernel_rfl) (by kernel_rfl) (fun _ _ _ h => h) (Or.inl ⟨by rfl, ?_⟩) (by assumption) ?_
          rotate_left
          · intro w hSw; (try dsimp only at hSw); go_simp; first | done | with_reducible rfl
          try simp only [Act.put, List.setIfInBounds_toArray, List.set_cons_zero, List.set_cons_succ]
          refine RegT.one (i := 3) (by kernel_rfl) rfl (fun K hK => ?_)
          go_simp
          refine (putText_any w.heap.size v' l x.name _ hS3.drew.row hS3.drew.le (by omega) hxs).mono ?_
          rintro e w4 ⟨v4, rfl, hG4⟩
          have hS4 := hS3.drew.step hG4
          have hE4 := hS3.drew.keep hG4 hE (by decide)
          refine hK.out _ _ ⟨cell_of_block hE4 (i := 0) rfl, cell_of_block hE4 (i := 1) rfl⟩ (fun hHeld => ?_)
          clear hK K
          try simp only [Act.put, List.setIfInBounds_toArray, List.set_cons_zero, List.set_cons_succ]
          refine RegT.one (i := 6) (by kernel_rfl) rfl (fun K hK => ?_)
          go_simp
          refine (put_any w.heap.size v4 (l ++ txt x.name) x.above _ (Or.inl hS4.row) hS4.le hab.1 hab.2 (by omega)).mono ?_
          rintro e w5 ⟨v5, rfl, hG5⟩
          have hS5 := hS4.step hG5
          have hE5 := hS4.keep hG5 hE4 (by decide)
          refine hK.out _ _ ⟨cell_of_block hE5 (i := 0) rfl, cell_of_block hE5 (i := 1) rfl⟩ (fun hHeld => ?_)
          clear hK K
          try simp only [Act.put, List.setIfInBounds_toArray, List.set_cons_zero, List.set_cons_succ]
          refine RegT.last (by kernel_rfl) rfl (by kernel_rfl) (fun K hK => ?_)
          go_simp
          refine hK.out _ _ ?_
          clear hK K
          try simp only [Act.put, List.setIfInBounds_toArray, List.set_cons_zero, List.set_cons_succ]
          have q2 : w5.cell? ⟨E, 2, none⟩ = some (.slice oF x.fields.length x.fieldsS.c) := cell_of_block hE5 rfl
          go_wp2_with fail
          have heq3 : (l ++ txt x.name ++ num x.above) ++ (num x.fields.length ++ (x.fields.flatMap txt ++ (num x.names.length ++ ((x.names.zip x.methods).flatMap nm ++ T3)))) = BD := by
            simp only [List.append_assoc]
            exact heq2
          clear heq2 hl4 hE hE4 hS4 hG4 hG5 hS3 hS hll p0 p1
          generalize l ++ txt x.name ++ num x.above = l5 at *
          have hl5 := len_of heq3 hN
          refine (put_any w.heap.size v5 l5 (x.fields.length : Int) w5 (Or.inl hS5.row) hS5.le (by omega) (by omega) (by omega)).mono ?_
          rintro e w6 ⟨v6, rfl, hG6⟩
          have hS6 := hS5.step hG6
          have hE6 := hS5.keep hG6 hE5 (by decide)
          have q2 : w6.cell? ⟨E, 2, none⟩ = some (.slice oF x.fields.length x.fieldsS.c) := cell_of_block hE6 rfl
          go_wp2_with fail
          obtain ⟨T4, hT4⟩ : ∃ T, num (x.names.length : Int) ++ ((x.names.zip x.methods).flatMap nm ++ T3) = T := ⟨_, rfl⟩
          have heq6 : (l5 ++ num (x.fields.length : Int)) ++ (x.fields.flatMap txt ++ T4) = BD := by
            rw [← hT4, List.append_assoc]
            exact heq3
          clear heq3 hS5 hE5 hG6 hl5
          generalize l5 ++ num (x.fields.length : Int) = l6 at *
          go_loopw [3, 85] (fun s3 s85 wr => ∃ (j : Nat) (l : List UInt8) (v' : Value), v' = s3 ∧ s85 = .int .i64 (j : Int) ∧ j ≤ x.fields.length ∧ St w.heap.size w wr v' l ∧ wr.heap[E]? = some (.cells #[.string x.name, .int .i64 x.above, .slice oF x.fields.length x.fieldsS.c, .slice oN x.names.length x.namesS.c, .slice oM x.methods.length x.methodsS.c] 63 (0, 0)) ∧ l ++ ((x.fields.drop j).flatMap txt ++ T4) = BD) (fun _ s85 _ => x.fields.length - (intOf s85).toNat)
          case atStart => exact ⟨0, l6, v6, rfl, rfl, Nat.zero_le _, hS6, hE6, heq6⟩
          case round =>
            clear hS6 heq6 hE6 q2
            obtain ⟨j, l, v', rfl, rfl, hj, hS, hE, heq⟩ := hrel
            have hll := len_of heq hN
            by_cases hjn : j < x.fields.length
            · obtain ⟨s, hs⟩ : ∃ s, x.fields[j]? = some s := ⟨_, List.getElem?_eq_getElem hjn⟩
              have hjd : decide ((j : Int) < (x.fields.length : Int)) = true := by simp; omega
              obtain rfl := aF (by omega)
              have f0 : wr.cell? ⟨x.fieldsS.b, x.fieldsS.o + j, none⟩ = some (.string s) := (rF j s hs).below hS.low (Nat.le_refl _) 0 _ rfl
              rw [drop_flat txt hs, List.append_assoc] at heq
              have hxs : s.size ≤ 35184372088832 := text_le heq hN
              clear rF aF rN rM aN aM
              go_wp2_with fail
              refine (putText_any w.heap.size v' l s wr hS.row hS.le (by omega) hxs).mono ?_
              rintro e w7 ⟨v7, rfl, hG7⟩
              have hS7 := hS.step hG7
              have hE7 := hS.keep hG7 hE (by decide)
              go_wp2
              go_roundw
              case rel => exact ⟨j + 1, _, _, rfl, by simp, by omega, hS7, hE7, by (simp only [List.append_assoc] at heq ⊢; exact heq)⟩
              case measure => simp [intOf]; omega
            · obtain rfl : j = x.fields.length := by omega
              have hjd : decide ((x.fields.length : Int) < (x.fields.length : Int)) = false := by simp
              rw [drop_all, List.nil_append] at heq
              have q3 : wr.cell? ⟨E, 3, none⟩ = some (.slice oN x.names.length x.namesS.c) := cell_of_block hE rfl
              clear rF aF
              go_wp2_with fail
              refine (put_any w.heap.size v' l (x.names.length : Int) wr (Or.inl hS.row) hS.le (by omega) (by omega) (by omega)).mono ?_
              rintro e w8 ⟨v8, rfl, hG8⟩
              have hS8 := hS.step hG8
              have hE8 := hS.keep hG8 hE (by decide)
              have q3 : w8.cell? ⟨E, 3, none⟩ = some (.slice oN x.names.length x.namesS.c) := cell_of_block hE8 rfl
              rw [← hT4, ← List.append_assoc] at heq
              generalize l ++ num (x.names.length : Int) = l8 at *
              clear hG8 hS hE hT4 hll
              go_wp2_with fail
              go_loopw [3, 101] (fun s3 s101 wr => ∃ (j : Nat) (l : List UInt8) (v' : Value), v' = s3 ∧ s101 = .int .i64 (j : Int) ∧ j ≤ x.names.length ∧ St w.heap.size w wr v' l ∧ wr.heap[E]? = some (.cells #[.string x.name, .int .i64 x.above, .slice oF x.fields.length x.fieldsS.c, .slice oN x.names.length x.namesS.c, .slice oM x.methods.length x.methodsS.c] 63 (0, 0)) ∧ l ++ (((x.names.zip x.methods).drop j).flatMap nm ++ T3) = BD) (fun _ s101 _ => x.names.length - (intOf s101).toNat)
              case atStart => exact ⟨0, l8, v8, rfl, rfl, Nat.zero_le _, hS8, hE8, heq⟩
              case round =>
                clear hS8 heq hE8 q3
                obtain ⟨j, l, v', rfl, rfl, hj, hS, hE, heq⟩ := hrel
                have hll := len_of heq hN
                have hzl : (x.names.zip x.methods).length = x.names.length := by rw [List.length_zip, hnx.out, Nat.min_self]
                by_cases hjn : j < x.names.length
                · have hjm : j < x.methods.length := by rw [← hnx.out]; exact hjn
                  obtain ⟨s, hs⟩ : ∃ s, x.names[j]? = some s := ⟨_, List.getElem?_eq_getElem hjn⟩
                  obtain ⟨n, hn⟩ : ∃ n, x.methods[j]? = some n := ⟨_, List.getElem?_eq_getElem hjm⟩
                  have hz : (x.names.zip x.methods)[j]? = some (s, n) := by
                    rw [List.getElem?_zip_eq_some]
                    exact ⟨hs, hn⟩
                  have hjd : decide ((j : Int) < (x.names.length : Int)) = true := by simp; omega
                  have i1 : (0 : Int) ≤ (j : Int) := by omega
                  have i2 : (j : Int) < (x.methods.length : Int) := by omega
                  obtain rfl := aN (by omega)
                  obtain rfl := aM (by omega)
                  have hno := (hok.cl x hxm).methods n (List.mem_of_getElem? hn)
                  unfold i64 at hno
                  have nn := num_len hno.1 hno.2
                  have f0 : wr.cell? ⟨x.namesS.b, x.namesS.o + j, none⟩ = some (.string s) := (rN j s hs).below hS.low (Nat.le_refl _) 0 _ rfl
                  have f1 : wr.cell? ⟨x.methodsS.b, x.methodsS.o + j, none⟩ = some (.int .i64 n) := (rM j n hn).below hS.low (Nat.le_refl _) 0 _ rfl
                  have g1 : ∀ w' v' l', St w.heap.size w w' v' l' → w'.cell? ⟨x.methodsS.b, x.methodsS.o + j, none⟩ = some (.int .i64 n) := fun w' v' l' h => (rM j n hn).below h.low (Nat.le_refl _) 0 _ rfl
                  have p4 : wr.cell? ⟨E, 4, none⟩ = some (.slice (some ⟨x.methodsS.b, x.methodsS.o, none⟩) x.methods.length x.methodsS.c) := cell_of_block hE rfl
                  rw [drop_flat nm hz] at heq
                  have heq' : l ++ (txt s ++ (num n ++ (((x.names.zip x.methods).drop (j + 1)).flatMap nm ++ T3))) = BD := by
                    unfold nm at heq
                    simp only [List.append_assoc] at heq
                    exact heq
                  have hxs : s.size ≤ 35184372088832 := text_le heq' hN
                  have hl4 : (l ++ txt s).length ≤ 70368744177664 := by
                    have h := len_of (l := l ++ txt s) (body := BD) (by rw [List.append_assoc]; exact heq') hN
                    omega
                  clear rN rM aN aM heq
                  go_wp2_with fail
                  refine RegT.begin (S := fun wz => wz.cell? ⟨E, 4, none⟩ = some (.slice (some ⟨x.methodsS.b, x.methodsS.o, none⟩) x.methods.length x.methodsS.c) ∧ wz.cell? ⟨x.methodsS.b, x.methodsS.o + j, none⟩ = some (.int .i64 n)) (L := 9) (by kernel_rfl) ?_ (fun hHeld => ?_)
                  · (try dsimp only); go_keep
                  refine RegT.take (i := 0) (v := ?_) rfl (by kernel_rfl) (by kernel_rfl) (by kernel_rfl) (by kernel_rfl) (fun _ _ _ h => h) (Or.inl ⟨by rfl, ?_⟩) (by assumption) ?_
                  rotate_left
                  · intro w hSw; (try dsimp only at hSw); go_simp; first | done | with_reducible rfl
                  try simp only [Act.put, List.setIfInBounds_toArray, List.set_cons_zero, List.set_cons_succ]
                  refine RegT.take (i := 1) (v := ?_) rfl (by kernel_rfl) (by kernel_rfl) (by kernel_rfl) (by kernel_rfl) (fun _ _ _ h => h) (Or.inl ⟨by rfl, ?_⟩) (by assumption) ?_
                  rotate_left
                  · intro w hSw; (try dsimp only at hSw); go_simp; first | done | with_reducible rfl
                  try simp only [Act.put, List.setIfInBounds_toArray, List.set_cons_zero, List.set_cons_succ]
                  refine RegT.take (i := 3) (v := ?_) rfl (by kernel_rfl) (by kernel_rfl) (by kernel_rfl) (by kernel_rfl) (fun _ _ _ h => h) (Or.inl ⟨by rfl, ?_⟩) (by assumption) ?_
                  rotate_left
                  · intro w hSw; (try dsimp only at hSw); go_simp; first | done | with_reducible rfl
                  try simp only [Act.put, List.setIfInBounds_toArray, List.set_cons_zero, List.set_cons_succ]
                  refine RegT.take (i := 4) (v := ?_) rfl (by kernel_rfl) (by kernel_rfl) (by kernel_rfl) (by kernel_rfl) (fun _ _ _ h => h) (Or.inl ⟨by rfl, ?_⟩) (by assumption) ?_
                  rotate_left
                  · intro w hSw; (try dsimp only at hSw); go_simp; first | done | with_reducible rfl
                  try simp only [Act.put, List.setIfInBounds_toArray, List.set_cons_zero, List.set_cons_succ]
                  refine RegT.take (i := 5) (v := ?_) rfl (by kernel_rfl) (by kernel_rfl) (by kernel_rfl) (by kernel_rfl) (fun _ _ _ h => h) (Or.inl ⟨by rfl, ?_⟩) (by assumption) ?_
                  rotate_left
                  · intro w hSw; (try dsimp only at hSw); go_simp; first | done | with_reducible rfl
                  try simp only [Act.put, List.setIfInBounds_toArray, List.set_cons_zero, List.set_cons_succ]
                  refine RegT.take (i := 6) (v := ?_) rfl (by kernel_rfl) (by kernel_rfl) (by kernel_rfl) (by kernel_rfl) (fun _ _ _ h => h) (Or.inl ⟨by rfl, ?_⟩) (by assumption) ?_
                  rotate_left
                  · intro w hSw; (try dsimp only at hSw); go_simp; first | done | with_reducible rfl
                  try simp only [Act.put, List.setIfInBounds_toArray, List.set_cons_zero, List.set_cons_succ]
                  refine RegT.take (i := 7) (v := ?_) rfl (by kernel_rfl) (by kernel_rfl) (by kernel_rfl) (by kernel_rfl) (fun _ _ _ h => h) (Or.inl ⟨by rfl, ?_⟩) (by assumption) ?_
                  rotate_left
                  · intro w hSw; (try dsimp only at hSw); go_simp; first | done | with_reducible rfl
                  try simp only [Act.put, List.setIfInBounds_toArray, List.set_cons_zero, List.set_cons_succ]
                  refine RegT.one (i := 2) (by kernel_rfl) rfl (fun K hK => ?_)
                  go_simp
                  refine (putText_any w.heap.size v' l s _ hS.drew.row hS.drew.le (by omega) hxs).mono ?_
                  rintro e w9 ⟨v9, rfl, hG9⟩
                  have hS9 := hS.drew.step hG9
                  have hE9 := hS.drew.keep hG9 hE (by decide)
                  refine hK.out _ _ ⟨cell_of_block hE9 (i := 4) rfl, g1 _ _ _ hS9⟩ (fun hHeld => ?_)
                  clear hK K
                  try simp only [Act.put, List.setIfInBounds_toArray, List.set_cons_zero, List.set_cons_succ]
                  refine RegT.one (i := 8) (by kernel_rfl) rfl (fun K hK => ?_)
                  go_simp
                  refine (put_any w.heap.size v9 (l ++ txt s) n _ (Or.inl hS9.row) hS9.le hno.1 hno.2 (by omega)).mono ?_
                  rintro e w10 ⟨v10, rfl, hG10⟩
                  have hS10 := hS9.step hG10
                  have hE10 := hS9.keep hG10 hE9 (by decide)
                  refine hK.out _ _ ⟨cell_of_block hE10 (i := 4) rfl, g1 _ _ _ hS10⟩ (fun hHeld => ?_)
                  clear hK K
                  try simp only [Act.put, List.setIfInBounds_toArray, List.set_cons_zero, List.set_cons_succ]
                  refine RegT.last (by kernel_rfl) rfl (by kernel_rfl) (fun K hK => ?_)
                  go_simp
                  refine hK.out _ _ ?_
                  clear hK K
                  try simp only [Act.put, List.setIfInBounds_toArray, List.set_cons_zero, List.set_cons_succ]
                  go_wp2
                  go_roundw
                  case rel => exact ⟨j + 1, _, _, rfl, by simp, by omega, hS10, hE10, by (simp only [List.append_assoc] at heq' ⊢; exact heq')⟩
                  case measure => simp [intOf]; omega
                · obtain rfl : j = x.names.length := by omega
                  have hjd : decide ((x.names.length : Int) < (x.names.length : Int)) = false := by simp
                  rw [show (x.names.zip x.methods).drop x.names.length = [] from List.drop_eq_nil_of_le (Nat.le_of_eq hzl), List.flatMap_nil, List.nil_append, ← hT3] at heq
                  clear rN rM aN aM
                  go_wp2
                  go_roundw
                  case rel => exact ⟨k + 1, _, _, rfl, by simp, by omega, hS, heq⟩
                  case measure => simp [intOf]; omega
        · obtain rfl : k = m.classes.length := by omega
          have hkd : decide ((m.classes.length : Int) < (m.classes.length : Int)) = false := by simp
          rw [drop_all, List.nil_append] at heq
          have d0 := (hS.low.cell (p := ⟨mb, mo, none⟩) hmlt).trans c0
          clear hrow2 a2
          go_wp2_with fail
          refine (put_any w.heap.size v' l (m.funcs.length : Int) wr (Or.inl hS.row) hS.le (by omega) (by omega) (by omega)).mono ?_
          rintro e w2 ⟨v2, rfl, hG⟩
          have hS2 := hS.step hG
          have d0 := (hS2.low.cell (p := ⟨mb, mo, none⟩) hmlt).trans c0
          rw [← hT2, ← List.append_assoc] at heq
          generalize l ++ num (m.funcs.length : Int) = L4 at *
          have hrow0 := fun (k : Nat) (x : Fc) (hx : m.funcs[k]? = some x) => hi.funcs.row k x.vals (by rw [List.getElem?_map, hx]; rfl)
          clear hG hS hT2
          go_wp2_with fail
          go_loopw [3, 129] (fun s3 s129 wr => ∃ (k : Nat) (l : List UInt8) (v' : Value), v' = s3 ∧ s129 = .int .i64 (k : Int) ∧ k ≤ m.funcs.length ∧ St w.heap.size w wr v' l ∧ l ++ (m.funcs.drop k).flatMap fc = BD) (fun _ s129 _ => m.funcs.length - (intOf s129).toNat)
          case atStart => exact ⟨0, L4, v2, rfl, rfl, Nat.zero_le _, hS2, heq⟩
          case round =>
            clear hS2 heq d0
            obtain ⟨k, l, v', rfl, rfl, hk, hS, heq⟩ := hrel
            have hll := len_of heq hN
            by_cases hkn : k < m.funcs.length
            · obtain ⟨x, hx⟩ : ∃ x, m.funcs[k]? = some x := ⟨_, List.getElem?_eq_getElem hkn⟩
              have hxm := List.mem_of_getElem? hx
              have hkd : decide ((k : Int) < (m.funcs.length : Int)) = true := by simp; omega
              obtain rfl := a0 (by omega)
              have hxr : Row wr m.funcsS.b (m.funcsS.o + k * 6) x.vals := (hrow0 k x hx).below hS.low (Nat.le_refl _)
              have hfi := hi.fn x hxm
              have hfo := hok.fn x hxm
              have lC := hfi.code.len
              have lH := hfi.hs.len
              have lV := hfi.vars.len
              have aC := hfi.code.addr
              have aH := hfi.hs.addr
              have aV := hfi.vars.addr
              rw [List.length_map] at lC lH lV
              rw [lC] at aC
              rw [lH] at aH
              rw [lV] at aV
              have rC := fun (k : Nat) (y : I3) (h : x.code[k]? = some y) => hfi.code.row k y.vals (by rw [List.getElem?_map, h]; rfl)
              have rH := fun (k : Nat) (y : H3) (h : x.hs[k]? = some y) => hfi.hs.row k y.vals (by rw [List.getElem?_map, h]; rfl)
              have rV := fun (k : Nat) (y : Vr) (h : x.vars[k]? = some y) => hfi.vars.row k y.vals (by rw [List.getElem?_map, h]; rfl)
              have kC := hfo.lens.1
              have kH := hfo.lens.2.1
              have kV := hfo.lens.2.2
              have oC' := hfo.code
              have oH' := hfo.hs
              have oV' := hfo.vars
              have nC := num_len (n := (x.code.length : Int)) (by omega) (by omega)
              have nH := num_len (n := (x.hs.length : Int)) (by omega) (by omega)
              have nV := num_len (n := (x.vars.length : Int)) (by omega) (by omega)
              have hpa := hfo.params
              have hsl := hfo.slots
              unfold i64 at hpa hsl
              have nP := num_len hpa.1 hpa.2
              have nS := num_len hsl.1 hsl.2
              have e0 : wr.cell? ⟨m.funcsS.b, m.funcsS.o + k * 6, none⟩ = some (.string x.name) := hxr 0 _ rfl
              have e1 : wr.cell? ⟨m.funcsS.b, m.funcsS.o + k * 6 + 1, none⟩ = some (.int .i64 x.params) := hxr 1 _ rfl
              have e2 : wr.cell? ⟨m.funcsS.b, m.funcsS.o + k * 6 + 2, none⟩ = some (.int .i64 x.slots) := hxr 2 _ rfl
              have e3 : wr.cell? ⟨m.funcsS.b, m.funcsS.o + k * 6 + 3, none⟩ = some (.slice x.codeS.oa x.codeS.n x.codeS.c) := hxr 3 _ rfl
              have e4 : wr.cell? ⟨m.funcsS.b, m.funcsS.o + k * 6 + 4, none⟩ = some (.slice x.hsS.oa x.hsS.n x.hsS.c) := hxr 4 _ rfl
              have e5 : wr.cell? ⟨m.funcsS.b, m.funcsS.o + k * 6 + 5, none⟩ = some (.slice x.varsS.oa x.varsS.n x.varsS.c) := hxr 5 _ rfl
              rw [lC] at e3
              rw [lH] at e4
              rw [lV] at e5
              obtain ⟨oC, hoC⟩ : ∃ oa, x.codeS.oa = oa := ⟨_, rfl⟩
              obtain ⟨oH, hoH⟩ : ∃ oa, x.hsS.oa = oa := ⟨_, rfl⟩
              obtain ⟨oV, hoV⟩ : ∃ oa, x.varsS.oa = oa := ⟨_, rfl⟩
              rw [hoC] at e3 aC
              rw [hoH] at e4 aH
              rw [hoV] at e5 aV
              clear hoC hoH hoV hfi hfo lC lH lV hxr
              rw [drop_flat fc hx] at heq
              obtain ⟨T3, hT3⟩ : ∃ T, (m.funcs.drop (k + 1)).flatMap fc = T := ⟨_, rfl⟩
              rw [hT3] at heq
              have heq2 : l ++ (txt x.name ++ (num x.params ++ (num x.slots ++ (num x.code.length ++ (x.code.flatMap i3 ++ (num x.hs.length ++ (x.hs.flatMap h3 ++ (num x.vars.length ++ (x.vars.flatMap vr ++ T3))))))))) = BD := by
                unfold fc at heq
                simp only [List.append_assoc] at heq
                exact heq
              clear heq
              have hxs : x.name.size ≤ 35184372088832 := text_le heq2 hN
              have hE := heap_alloc_new wr (.cells #[.string x.name, .int .i64 x.params, .int .i64 x.slots, .slice oC x.code.length x.codeS.c, .slice oH x.hs.length x.hsS.c, .slice oV x.vars.length x.varsS.c] 112)
              have hS3 := hS.alloc (.cells #[.string x.name, .int .i64 x.params, .int .i64 x.slots, .slice oC x.code.length x.codeS.c, .slice oH x.hs.length x.hsS.c, .slice oV x.vars.length x.varsS.c] 112)
              clear hrow0 a0
              go_wp2_with fail
              generalize wr.alloc (.cells #[.string x.name, .int .i64 x.params, .int .i64 x.slots, .slice oC x.code.length x.codeS.c, .slice oH x.hs.length x.hsS.c, .slice oV x.vars.length x.varsS.c] 112) = w3 at *
              generalize wr.heap.size = E at *
              have p0 : w3.cell? ⟨E, 0, none⟩ = some (.string x.name) := cell_of_block hE rfl
              have p1 : w3.cell? ⟨E, 1, none⟩ = some (.int .i64 x.params) := cell_of_block hE rfl
              have p2 : w3.cell? ⟨E, 2, none⟩ = some (.int .i64 x.slots) := cell_of_block hE rfl
              have hl4 : (l ++ txt x.name).length ≤ 35184372088832 := len_of (l := l ++ txt x.name) (body := BD) (by rw [List.append_assoc]; exact heq2) hN
              have hl5 : (l ++ txt x.name ++ num x.params).length ≤ 35184372088842 := by rw [List.length_append]; omega
              refine RegT.begin (S := fun wz => wz.cell? ⟨E, 0, none⟩ = some (.string x.name) ∧ wz.cell? ⟨E, 1, none⟩ = some (.int .i64 x.params) ∧ wz.cell? ⟨E, 2, none⟩ = some (.int .i64 x.slots)) (L := 10) (by kernel_rfl) ?_ (fun hHeld => ?_)
              · (try dsimp only); go_keep
              refine RegT.take (i := 0) (v := ?_) rfl (by kernel_rfl) (by kernel_rfl) (by kernel_rfl) (by kernel_rfl) (fun _ _ _ h => h) (Or.inl ⟨by rfl, ?_⟩) (by assumption) ?_
              rotate_left
              · intro w hSw; (try dsimp only at hSw); go_simp; first | done | with_reducible rfl
              try simp only [Act.put, List.setIfInBounds_toArray, List.set_cons_zero, List.set_cons_succ]
              refine RegT.take (i := 1) (v := ?_) rfl (by kernel_rfl) (by kernel_rfl) (by kernel_rfl) (by kernel_rfl) (fun _ _ _ h => h) (Or.inl ⟨by rfl, ?_⟩) (by assumption) ?_
              rotate_left
              · intro w hSw; (try dsimp only at hSw); go_simp; first | done | with_reducible rfl
              try simp only [Act.put, List.setIfInBounds_toArray, List.set_cons_zero, List.set_cons_succ]
              refine RegT.take (i := 2) (v := ?_) rfl (by kernel_rfl) (by kernel_rfl) (by kernel_rfl) (by kernel_rfl) (fun _ _ _ h => h) (Or.inl ⟨by rfl, ?_⟩) (by assumption) ?_
              rotate_left
              · intro w hSw; (try dsimp only at hSw); go_simp; first | done | with_reducible rfl
              try simp only [Act.put, List.setIfInBounds_toArray, List.set_cons_zero, List.set_cons_succ]
              refine RegT.take (i := 4) (v := ?_) rfl (by kernel_rfl) (by kernel_rfl) (by kernel_rfl) (by kernel_rfl) (fun _ _ _ h => h) (Or.inl ⟨by rfl, ?_⟩) (by assumption) ?_
              rotate_left
              · intro w hSw; (try dsimp only at hSw); go_simp; first | done | with_reducible rfl
              try simp only [Act.put, List.setIfInBounds_toArray, List.set_cons_zero, List.set_cons_succ]
              refine RegT.take (i := 5) (v := ?_) rfl (by kernel_rfl) (by kernel_rfl) (by kernel_rfl) (by kernel_rfl) (fun _ _ _ h => h) (Or.inl ⟨by rfl, ?_⟩) (by assumption) ?_
              rotate_left
              · intro w hSw; (try dsimp only at hSw); go_simp; first | done | with_reducible rfl
              try simp only [Act.put, List.setIfInBounds_toArray, List.set_cons_zero, List.set_cons_succ]
              refine RegT.take (i := 7) (v := ?_) rfl (by kernel_rfl) (by kernel_rfl) (by kernel_rfl) (by kernel_rfl) (fun _ _ _ h => h) (Or.inl ⟨by rfl, ?_⟩) (by assumption) ?_
              rotate_left
              · intro w hSw; (try dsimp only at hSw); go_simp; first | done | with_reducible rfl
              try simp only [Act.put, List.setIfInBounds_toArray, List.set_cons_zero, List.set_cons_succ]
              refine RegT.take (i := 8) (v := ?_) rfl (by kernel_rfl) (by kernel_rfl) (by kernel_rfl) (by kernel_rfl) (fun _ _ _ h => h) (Or.inl ⟨by rfl, ?_⟩) (by assumption) ?_
              rotate_left
              · intro w hSw; (try dsimp only at hSw); go_simp; first | done | with_reducible rfl
              try simp only [Act.put, List.setIfInBounds_toArray, List.set_cons_zero, List.set_cons_succ]
              refine RegT.one (i := 3) (by kernel_rfl) rfl (fun K hK => ?_)
              go_simp
              refine (putText_any w.heap.size v' l x.name _ hS3.drew.row hS3.drew.le (by omega) hxs).mono ?_
              rintro e w4 ⟨v4, rfl, hG4⟩
              have hS4 := hS3.drew.step hG4
              have hE4 := hS3.drew.keep hG4 hE (by decide)
              refine hK.out _ _ ⟨cell_of_block hE4 (i := 0) rfl, cell_of_block hE4 (i := 1) rfl, cell_of_block hE4 (i := 2) rfl⟩ (fun hHeld => ?_)
              clear hK K
              try simp only [Act.put, List.setIfInBounds_toArray, List.set_cons_zero, List.set_cons_succ]
              refine RegT.one (i := 6) (by kernel_rfl) rfl (fun K hK => ?_)
              go_simp
              refine (put_any w.heap.size v4 (l ++ txt x.name) x.params _ (Or.inl hS4.row) hS4.le hpa.1 hpa.2 (by omega)).mono ?_
              rintro e w5 ⟨v5, rfl, hG5⟩
              have hS5 := hS4.step hG5
              have hE5 := hS4.keep hG5 hE4 (by decide)
              refine hK.out _ _ ⟨cell_of_block hE5 (i := 0) rfl, cell_of_block hE5 (i := 1) rfl, cell_of_block hE5 (i := 2) rfl⟩ (fun hHeld => ?_)
              clear hK K
              try simp only [Act.put, List.setIfInBounds_toArray, List.set_cons_zero, List.set_cons_succ]
              refine RegT.one (i := 9) (by kernel_rfl) rfl (fun K hK => ?_)
              go_simp
              refine (put_any w.heap.size v5 (l ++ txt x.name ++ num x.params) x.slots _ (Or.inl hS5.row) hS5.le hsl.1 hsl.2 (by omega)).mono ?_
              rintro e w6 ⟨v6, rfl, hG6⟩
              have hS6 := hS5.step hG6
              have hE6 := hS5.keep hG6 hE5 (by decide)
              refine hK.out _ _ ⟨cell_of_block hE6 (i := 0) rfl, cell_of_block hE6 (i := 1) rfl, cell_of_block hE6 (i := 2) rfl⟩ (fun hHeld => ?_)
              clear hK K
              try simp only [Act.put, List.setIfInBounds_toArray, List.set_cons_zero, List.set_cons_succ]
              refine RegT.last (by kernel_rfl) rfl (by kernel_rfl) (fun K hK => ?_)
              go_simp
              refine hK.out _ _ ?_
              clear hK K
              try simp only [Act.put, List.setIfInBounds_toArray, List.set_cons_zero, List.set_cons_succ]
              have q3 : w6.cell? ⟨E, 3, none⟩ = some (.slice oC x.code.length x.codeS.c) := cell_of_block hE6 rfl
              go_wp2_with fail
              have heq3 : (l ++ txt x.name ++ num x.params ++ num x.slots) ++ (num x.code.length ++ (x.code.flatMap i3 ++ (num x.hs.length ++ (x.hs.flatMap h3 ++ (num x.vars.length ++ (x.vars.flatMap vr ++ T3)))))) = BD := by
                simp only [List.append_assoc]
                exact heq2
              clear heq2 hl4 hl5 hE hE4 hE5 hS4 hS5 hG4 hG5 hG6 hS3 hS hll p0 p1 p2
              generalize l ++ txt x.name ++ num x.params ++ num x.slots = l6 at *
              have hl6 := len_of heq3 hN
              refine (put_any w.heap.size v6 l6 (x.code.length : Int) w6 (Or.inl hS6.row) hS6.le (by omega) (by omega) (by omega)).mono ?_
              rintro e w7 ⟨v7, rfl, hG7⟩
              have hS7 := hS6.step hG7
              have hE7 := hS6.keep hG7 hE6 (by decide)
              have q3 : w7.cell? ⟨E, 3, none⟩ = some (.slice oC x.code.length x.codeS.c) := cell_of_block hE7 rfl
              go_wp2_with fail
              obtain ⟨U1, hU1⟩ : ∃ T, num (x.hs.length : Int) ++ (x.hs.flatMap h3 ++ (num (x.vars.length : Int) ++ (x.vars.flatMap vr ++ T3))) = T := ⟨_, rfl⟩
              have heq7 : (l6 ++ num (x.code.length : Int)) ++ (x.code.flatMap i3 ++ U1) = BD := by
                rw [← hU1, List.append_assoc]
                exact heq3
              clear heq3 hS6 hE6 hG7 hl6
              generalize l6 ++ num (x.code.length : Int) = l7 at *
              go_loopw [3, 151] (fun s3 s151 wr => ∃ (j : Nat) (l : List UInt8) (v' : Value), v' = s3 ∧ s151 = .int .i64 (j : Int) ∧ j ≤ x.code.length ∧ St w.heap.size w wr v' l ∧ wr.heap[E]? = some (.cells #[.string x.name, .int .i64 x.params, .int .i64 x.slots, .slice oC x.code.length x.codeS.c, .slice oH x.hs.length x.hsS.c, .slice oV x.vars.length x.varsS.c] 112 (0, 0)) ∧ l ++ ((x.code.drop j).flatMap i3 ++ U1) = BD) (fun _ s151 _ => x.code.length - (intOf s151).toNat)
              case atStart => exact ⟨0, l7, v7, rfl, rfl, Nat.zero_le _, hS7, hE7, heq7⟩
              case round =>
                clear hS7 hE7 heq7 q3
                obtain ⟨j, l, v', rfl, rfl, hj, hS, hE, heq⟩ := hrel
                have hll := len_of heq hN
                by_cases hjn : j < x.code.length
                · obtain ⟨y, hy⟩ : ∃ y, x.code[j]? = some y := ⟨_, List.getElem?_eq_getElem hjn⟩
                  have hjd : decide ((j : Int) < (x.code.length : Int)) = true := by simp; omega
                  obtain rfl := aC (by omega)
                  have hyo := oC' y (List.mem_of_getElem? hy)
                  unfold I3Ok i64 at hyo
                  obtain ⟨⟨y0, y1⟩, ⟨y2, y3⟩, ⟨y4, y5⟩⟩ := hyo
                  have m0 := num_len y0 y1
                  have m1 := num_len y2 y3
                  have m2 := num_len y4 y5
                  have hyr : Row wr x.codeS.b (x.codeS.o + j * 3) y.vals := (rC j y hy).below hS.low (Nat.le_refl _)
                  have f0 : wr.cell? ⟨x.codeS.b, x.codeS.o + j * 3, none⟩ = some (.int .i64 y.op) := hyr 0 _ rfl
                  have f1 : wr.cell? ⟨x.codeS.b, x.codeS.o + j * 3 + 1, none⟩ = some (.int .i64 y.a) := hyr 1 _ rfl
                  have f2 : wr.cell? ⟨x.codeS.b, x.codeS.o + j * 3 + 2, none⟩ = some (.int .i64 y.b) := hyr 2 _ rfl
                  rw [drop_flat i3 hy, List.append_assoc] at heq
                  rw [show i3 y = num y.op ++ num y.a ++ num y.b from rfl] at heq
                  have hF := heap_alloc_new wr (.cells #[.int .i64 y.op, .int .i64 y.a, .int .i64 y.b] 134)
                  have hS3 := hS.alloc (.cells #[.int .i64 y.op, .int .i64 y.a, .int .i64 y.b] 134)
                  have hE3 := (Below.heap_alloc wr (.cells #[.int .i64 y.op, .int .i64 y.a, .int .i64 y.b] 134) E (lt_of_block hE)).trans hE
                  have hl4 : (l ++ num y.op).length ≤ 35184372088842 := by rw [List.length_append]; omega
                  have hl5 : (l ++ num y.op ++ num y.a).length ≤ 35184372088852 := by rw [List.length_append]; omega
                  clear rC rH rV aC aH aV hyr
                  go_wp2_with fail
                  generalize wr.alloc (.cells #[.int .i64 y.op, .int .i64 y.a, .int .i64 y.b] 134) = w3 at *
                  generalize wr.heap.size = F at *
                  have p0 : w3.cell? ⟨F, 0, none⟩ = some (.int .i64 y.op) := cell_of_block hF rfl
                  have p1 : w3.cell? ⟨F, 1, none⟩ = some (.int .i64 y.a) := cell_of_block hF rfl
                  have p2 : w3.cell? ⟨F, 2, none⟩ = some (.int .i64 y.b) := cell_of_block hF rfl
                  refine RegT.begin (S := fun wz => wz.cell? ⟨F, 0, none⟩ = some (.int .i64 y.op) ∧ wz.cell? ⟨F, 1, none⟩ = some (.int .i64 y.a) ∧ wz.cell? ⟨F, 2, none⟩ = some (.int .i64 y.b)) (L := 10) (by kernel_rfl) ?_ (fun hHeld => ?_)
                  · (try dsimp only); go_keep
                  refine RegT.take (i := 0) (v := ?_) rfl (by kernel_rfl) (by kernel_rfl) (by kernel_rfl) (by kernel_rfl) (fun _ _ _ h => h) (Or.inl ⟨by rfl, ?_⟩) (by assumption) ?_
                  rotate_left
                  · intro w hSw; (try dsimp only at hSw); go_simp; first | done | with_reducible rfl
                  try simp only [Act.put, List.setIfInBounds_toArray, List.set_cons_zero, List.set_cons_succ]
                  refine RegT.take (i := 1) (v := ?_) rfl (by kernel_rfl) (by kernel_rfl) (by kernel_rfl) (by kernel_rfl) (fun _ _ _ h => h) (Or.inl ⟨by rfl, ?_⟩) (by assumption) ?_
                  rotate_left
                  · intro w hSw; (try dsimp only at hSw); go_simp; first | done | with_reducible rfl
                  try simp only [Act.put, List.setIfInBounds_toArray, List.set_cons_zero, List.set_cons_succ]
                  refine RegT.take (i := 2) (v := ?_) rfl (by kernel_rfl) (by kernel_rfl) (by kernel_rfl) (by kernel_rfl) (fun _ _ _ h => h) (Or.inl ⟨by rfl, ?_⟩) (by assumption) ?_
                  rotate_left
                  · intro w hSw; (try dsimp only at hSw); go_simp; first | done | with_reducible rfl
                  try simp only [Act.put, List.setIfInBounds_toArray, List.set_cons_zero, List.set_cons_succ]
                  refine RegT.take (i := 4) (v := ?_) rfl (by kernel_rfl) (by kernel_rfl) (by kernel_rfl) (by kernel_rfl) (fun _ _ _ h => h) (Or.inl ⟨by rfl, ?_⟩) (by assumption) ?_
                  rotate_left
                  · intro w hSw; (try dsimp only at hSw); go_simp; first | done | with_reducible rfl
                  try simp only [Act.put, List.setIfInBounds_toArray, List.set_cons_zero, List.set_cons_succ]
                  refine RegT.take (i := 5) (v := ?_) rfl (by kernel_rfl) (by kernel_rfl) (by kernel_rfl) (by kernel_rfl) (fun _ _ _ h => h) (Or.inl ⟨by rfl, ?_⟩) (by assumption) ?_
                  rotate_left
                  · intro w hSw; (try dsimp only at hSw); go_simp; first | done | with_reducible rfl
                  try simp only [Act.put, List.setIfInBounds_toArray, List.set_cons_zero, List.set_cons_succ]
                  refine RegT.take (i := 7) (v := ?_) rfl (by kernel_rfl) (by kernel_rfl) (by kernel_rfl) (by kernel_rfl) (fun _ _ _ h => h) (Or.inl ⟨by rfl, ?_⟩) (by assumption) ?_
                  rotate_left
                  · intro w hSw; (try dsimp only at hSw); go_simp; first | done | with_reducible rfl
                  try simp only [Act.put, List.setIfInBounds_toArray, List.set_cons_zero, List.set_cons_succ]
                  refine RegT.take (i := 8) (v := ?_) rfl (by kernel_rfl) (by kernel_rfl) (by kernel_rfl) (by kernel_rfl) (fun _ _ _ h => h) (Or.inl ⟨by rfl, ?_⟩) (by assumption) ?_
                  rotate_left
                  · intro w hSw; (try dsimp only at hSw); go_simp; first | done | with_reducible rfl
                  try simp only [Act.put, List.setIfInBounds_toArray, List.set_cons_zero, List.set_cons_succ]
                  refine RegT.one (i := 3) (by kernel_rfl) rfl (fun K hK => ?_)
                  go_simp
                  refine (put_any w.heap.size v' l y.op _ (Or.inl hS3.drew.row) hS3.drew.le y0 y1 (by omega)).mono ?_
                  rintro e w4 ⟨v4, rfl, hG4⟩
                  have hS4 := hS3.drew.step hG4
                  have hF4 := hS3.drew.keep hG4 hF (by decide)
                  have hE4 := hS3.drew.keep hG4 hE3 (by decide)
                  refine hK.out _ _ ⟨cell_of_block hF4 (i := 0) rfl, cell_of_block hF4 (i := 1) rfl, cell_of_block hF4 (i := 2) rfl⟩ (fun hHeld => ?_)
                  clear hK K
                  try simp only [Act.put, List.setIfInBounds_toArray, List.set_cons_zero, List.set_cons_succ]
                  refine RegT.one (i := 6) (by kernel_rfl) rfl (fun K hK => ?_)
                  go_simp
                  refine (put_any w.heap.size v4 (l ++ num y.op) y.a _ (Or.inl hS4.row) hS4.le y2 y3 (by omega)).mono ?_
                  rintro e w5 ⟨v5, rfl, hG5⟩
                  have hS5 := hS4.step hG5
                  have hF5 := hS4.keep hG5 hF4 (by decide)
                  have hE5 := hS4.keep hG5 hE4 (by decide)
                  refine hK.out _ _ ⟨cell_of_block hF5 (i := 0) rfl, cell_of_block hF5 (i := 1) rfl, cell_of_block hF5 (i := 2) rfl⟩ (fun hHeld => ?_)
                  clear hK K
                  try simp only [Act.put, List.setIfInBounds_toArray, List.set_cons_zero, List.set_cons_succ]
                  refine RegT.one (i := 9) (by kernel_rfl) rfl (fun K hK => ?_)
                  go_simp
                  refine (put_any w.heap.size v5 (l ++ num y.op ++ num y.a) y.b _ (Or.inl hS5.row) hS5.le y4 y5 (by omega)).mono ?_
                  rintro e w6 ⟨v6, rfl, hG6⟩
                  have hS6 := hS5.step hG6
                  have hF6 := hS5.keep hG6 hF5 (by decide)
                  have hE6 := hS5.keep hG6 hE5 (by decide)
                  refine hK.out _ _ ⟨cell_of_block hF6 (i := 0) rfl, cell_of_block hF6 (i := 1) rfl, cell_of_block hF6 (i := 2) rfl⟩ (fun hHeld => ?_)
                  clear hK K
                  try simp only [Act.put, List.setIfInBounds_toArray, List.set_cons_zero, List.set_cons_succ]
                  refine RegT.last (by kernel_rfl) rfl (by kernel_rfl) (fun K hK => ?_)
                  go_simp
                  refine hK.out _ _ ?_
                  clear hK K
                  try simp only [Act.put, List.setIfInBounds_toArray, List.set_cons_zero, List.set_cons_succ]
                  go_wp2
                  go_roundw
                  case rel => exact ⟨j + 1, _, _, rfl, by simp, by omega, hS6, hE6, by (simp only [List.append_assoc] at heq ⊢; exact heq)⟩
                  case measure => simp [intOf]; omega
                · obtain rfl : j = x.code.length := by omega
                  have hjd : decide ((x.code.length : Int) < (x.code.length : Int)) = false := by simp
                  rw [drop_all, List.nil_append] at heq
                  have q4 : wr.cell? ⟨E, 4, none⟩ = some (.slice oH x.hs.length x.hsS.c) := cell_of_block hE rfl
                  clear rC aC
                  go_wp2_with fail
                  refine (put_any w.heap.size v' l (x.hs.length : Int) wr (Or.inl hS.row) hS.le (by omega) (by omega) (by omega)).mono ?_
                  rintro e w8 ⟨v8, rfl, hG8⟩
                  have hS8 := hS.step hG8
                  have hE8 := hS.keep hG8 hE (by decide)
                  have q4 : w8.cell? ⟨E, 4, none⟩ = some (.slice oH x.hs.length x.hsS.c) := cell_of_block hE8 rfl
                  rw [← hU1, ← List.append_assoc] at heq
                  generalize l ++ num (x.hs.length : Int) = l8 at *
                  obtain ⟨U2, hU2⟩ : ∃ T, num (x.vars.length : Int) ++ (x.vars.flatMap vr ++ T3) = T := ⟨_, rfl⟩
                  rw [hU2] at heq
                  clear hG8 hS hE hU1 hll
                  go_wp2_with fail
                  go_loopw [3, 174] (fun s3 s174 wr => ∃ (j : Nat) (l : List UInt8) (v' : Value), v' = s3 ∧ s174 = .int .i64 (j : Int) ∧ j ≤ x.hs.length ∧ St w.heap.size w wr v' l ∧ wr.heap[E]? = some (.cells #[.string x.name, .int .i64 x.params, .int .i64 x.slots, .slice oC x.code.length x.codeS.c, .slice oH x.hs.length x.hsS.c, .slice oV x.vars.length x.varsS.c] 112 (0, 0)) ∧ l ++ ((x.hs.drop j).flatMap h3 ++ U2) = BD) (fun _ s174 _ => x.hs.length - (intOf s174).toNat)
                  case atStart => exact ⟨0, l8, v8, rfl, rfl, Nat.zero_le _, hS8, hE8, heq⟩
                  case round =>
                    clear hS8 hE8 heq q4
                    obtain ⟨j, l, v', rfl, rfl, hj, hS, hE, heq⟩ := hrel
                    have hll := len_of heq hN
                    by_cases hjn : j < x.hs.length
                    · obtain ⟨y, hy⟩ : ∃ y, x.hs[j]? = some y := ⟨_, List.getElem?_eq_getElem hjn⟩
                      have hjd : decide ((j : Int) < (x.hs.length : Int)) = true := by simp; omega
                      obtain rfl := aH (by omega)
                      have hyo := oH' y (List.mem_of_getElem? hy)
                      unfold H3Ok i64 at hyo
                      obtain ⟨⟨y0, y1⟩, ⟨y2, y3⟩, ⟨y4, y5⟩⟩ := hyo
                      have m0 := num_len y0 y1
                      have m1 := num_len y2 y3
                      have m2 := num_len y4 y5
                      have hyr : Row wr x.hsS.b (x.hsS.o + j * 3) y.vals := (rH j y hy).below hS.low (Nat.le_refl _)
                      have f0 : wr.cell? ⟨x.hsS.b, x.hsS.o + j * 3, none⟩ = some (.int .i64 y.f) := hyr 0 _ rfl
                      have f1 : wr.cell? ⟨x.hsS.b, x.hsS.o + j * 3 + 1, none⟩ = some (.int .i64 y.t) := hyr 1 _ rfl
                      have f2 : wr.cell? ⟨x.hsS.b, x.hsS.o + j * 3 + 2, none⟩ = some (.int .i64 y.g) := hyr 2 _ rfl
                      rw [drop_flat h3 hy, List.append_assoc] at heq
                      rw [show h3 y = num y.f ++ num y.t ++ num y.g from rfl] at heq
                      have hF := heap_alloc_new wr (.cells #[.int .i64 y.f, .int .i64 y.t, .int .i64 y.g] 137)
                      have hS3 := hS.alloc (.cells #[.int .i64 y.f, .int .i64 y.t, .int .i64 y.g] 137)
                      have hE3 := (Below.heap_alloc wr (.cells #[.int .i64 y.f, .int .i64 y.t, .int .i64 y.g] 137) E (lt_of_block hE)).trans hE
                      have hl4 : (l ++ num y.f).length ≤ 35184372088842 := by rw [List.length_append]; omega
                      have hl5 : (l ++ num y.f ++ num y.t).length ≤ 35184372088852 := by rw [List.length_append]; omega
                      clear rH rV aH aV hyr
                      go_wp2_with fail
                      generalize wr.alloc (.cells #[.int .i64 y.f, .int .i64 y.t, .int .i64 y.g] 137) = w3 at *
                      generalize wr.heap.size = F at *
                      have p0 : w3.cell? ⟨F, 0, none⟩ = some (.int .i64 y.f) := cell_of_block hF rfl
                      have p1 : w3.cell? ⟨F, 1, none⟩ = some (.int .i64 y.t) := cell_of_block hF rfl
                      have p2 : w3.cell? ⟨F, 2, none⟩ = some (.int .i64 y.g) := cell_of_block hF rfl
                      refine RegT.begin (S := fun wz => wz.cell? ⟨F, 0, none⟩ = some (.int .i64 y.f) ∧ wz.cell? ⟨F, 1, none⟩ = some (.int .i64 y.t) ∧ wz.cell? ⟨F, 2, none⟩ = some (.int .i64 y.g)) (L := 10) (by kernel_rfl) ?_ (fun hHeld => ?_)
                      · (try dsimp only); go_keep
                      refine RegT.take (i := 0) (v := ?_) rfl (by kernel_rfl) (by kernel_rfl) (by kernel_rfl) (by kernel_rfl) (fun _ _ _ h => h) (Or.inl ⟨by rfl, ?_⟩) (by assumption) ?_
                      rotate_left
                      · intro w hSw; (try dsimp only at hSw); go_simp; first | done | with_reducible rfl
                      try simp only [Act.put, List.setIfInBounds_toArray, List.set_cons_zero, List.set_cons_succ]
                      refine RegT.take (i := 1) (v := ?_) rfl (by kernel_rfl) (by kernel_rfl) (by kernel_rfl) (by kernel_rfl) (fun _ _ _ h => h) (Or.inl ⟨by rfl, ?_⟩) (by assumption) ?_
                      rotate_left
                      · intro w hSw; (try dsimp only at hSw); go_simp; first | done | with_reducible rfl
                      try simp only [Act.put, List.setIfInBounds_toArray, List.set_cons_zero, List.set_cons_succ]
                      refine RegT.take (i := 2) (v := ?_) rfl (by kernel_rfl) (by kernel_rfl) (by kernel_rfl) (by kernel_rfl) (fun _ _ _ h => h) (Or.inl ⟨by rfl, ?_⟩) (by assumption) ?_
                      rotate_left
                      · intro w hSw; (try dsimp only at hSw); go_simp; first | done | with_reducible rfl
                      try simp only [Act.put, List.setIfInBounds_toArray, List.set_cons_zero, List.set_cons_succ]
                      refine RegT.take (i := 4) (v := ?_) rfl (by kernel_rfl) (by kernel_rfl) (by kernel_rfl) (by kernel_rfl) (fun _ _ _ h => h) (Or.inl ⟨by rfl, ?_⟩) (by assumption) ?_
                      rotate_left
                      · intro w hSw; (try dsimp only at hSw); go_simp; first | done | with_reducible rfl
                      try simp only [Act.put, List.setIfInBounds_toArray, List.set_cons_zero, List.set_cons_succ]
                      refine RegT.take (i := 5) (v := ?_) rfl (by kernel_rfl) (by kernel_rfl) (by kernel_rfl) (by kernel_rfl) (fun _ _ _ h => h) (Or.inl ⟨by rfl, ?_⟩) (by assumption) ?_
                      rotate_left
                      · intro w hSw; (try dsimp only at hSw); go_simp; first | done | with_reducible rfl
                      try simp only [Act.put, List.setIfInBounds_toArray, List.set_cons_zero, List.set_cons_succ]
                      refine RegT.take (i := 7) (v := ?_) rfl (by kernel_rfl) (by kernel_rfl) (by kernel_rfl) (by kernel_rfl) (fun _ _ _ h => h) (Or.inl ⟨by rfl, ?_⟩) (by assumption) ?_
                      rotate_left
                      · intro w hSw; (try dsimp only at hSw); go_simp; first | done | with_reducible rfl
                      try simp only [Act.put, List.setIfInBounds_toArray, List.set_cons_zero, List.set_cons_succ]
                      refine RegT.take (i := 8) (v := ?_) rfl (by kernel_rfl) (by kernel_rfl) (by kernel_rfl) (by kernel_rfl) (fun _ _ _ h => h) (Or.inl ⟨by rfl, ?_⟩) (by assumption) ?_
                      rotate_left
                      · intro w hSw; (try dsimp only at hSw); go_simp; first | done | with_reducible rfl
                      try simp only [Act.put, List.setIfInBounds_toArray, List.set_cons_zero, List.set_cons_succ]
                      refine RegT.one (i := 3) (by kernel_rfl) rfl (fun K hK => ?_)
                      go_simp
                      refine (put_any w.heap.size v' l y.f _ (Or.inl hS3.drew.row) hS3.drew.le y0 y1 (by omega)).mono ?_
                      rintro e w4 ⟨v4, rfl, hG4⟩
                      have hS4 := hS3.drew.step hG4
                      have hF4 := hS3.drew.keep hG4 hF (by decide)
                      have hE4 := hS3.drew.keep hG4 hE3 (by decide)
                      refine hK.out _ _ ⟨cell_of_block hF4 (i := 0) rfl, cell_of_block hF4 (i := 1) rfl, cell_of_block hF4 (i := 2) rfl⟩ (fun hHeld => ?_)
                      clear hK K
                      try simp only [Act.put, List.setIfInBounds_toArray, List.set_cons_zero, List.set_cons_succ]
                      refine RegT.one (i := 6) (by kernel_rfl) rfl (fun K hK => ?_)
                      go_simp
                      refine (put_any w.heap.size v4 (l ++ num y.f) y.t _ (Or.inl hS4.row) hS4.le y2 y3 (by omega)).mono ?_
                      rintro e w5 ⟨v5, rfl, hG5⟩
                      have hS5 := hS4.step hG5
                      have hF5 := hS4.keep hG5 hF4 (by decide)
                      have hE5 := hS4.keep hG5 hE4 (by decide)
                      refine hK.out _ _ ⟨cell_of_block hF5 (i := 0) rfl, cell_of_block hF5 (i := 1) rfl, cell_of_block hF5 (i := 2) rfl⟩ (fun hHeld => ?_)
                      clear hK K
                      try simp only [Act.put, List.setIfInBounds_toArray, List.set_cons_zero, List.set_cons_succ]
                      refine RegT.one (i := 9) (by kernel_rfl) rfl (fun K hK => ?_)
                      go_simp
                      refine (put_any w.heap.size v5 (l ++ num y.f ++ num y.t) y.g _ (Or.inl hS5.row) hS5.le y4 y5 (by omega)).mono ?_
                      rintro e w6 ⟨v6, rfl, hG6⟩
                      have hS6 := hS5.step hG6
                      have hF6 := hS5.keep hG6 hF5 (by decide)
                      have hE6 := hS5.keep hG6 hE5 (by decide)
                      refine hK.out _ _ ⟨cell_of_block hF6 (i := 0) rfl, cell_of_block hF6 (i := 1) rfl, cell_of_block hF6 (i := 2) rfl⟩ (fun hHeld => ?_)
                      clear hK K
                      try simp only [Act.put, List.setIfInBounds_toArray, List.set_cons_zero, List.set_cons_succ]
                      refine RegT.last (by kernel_rfl) rfl (by kernel_rfl) (fun K hK => ?_)
                      go_simp
                      refine hK.out _ _ ?_
                      clear hK K
                      try simp only [Act.put, List.setIfInBounds_toArray, List.set_cons_zero, List.set_cons_succ]
                      go_wp2
                      go_roundw
                      case rel => exact ⟨j + 1, _, _, rfl, by simp, by omega, hS6, hE6, by (simp only [List.append_assoc] at heq ⊢; exact heq)⟩
                      case measure => simp [intOf]; omega
                    · obtain rfl : j = x.hs.length := by omega
                      have hjd : decide ((x.hs.length : Int) < (x.hs.length : Int)) = false := by simp
                      rw [drop_all, List.nil_append] at heq
                      have q5 : wr.cell? ⟨E, 5, none⟩ = some (.slice oV x.vars.length x.varsS.c) := cell_of_block hE rfl
                      clear rH aH
                      go_wp2_with fail
                      refine (put_any w.heap.size v' l (x.vars.length : Int) wr (Or.inl hS.row) hS.le (by omega) (by omega) (by omega)).mono ?_
                      rintro e w8 ⟨v8, rfl, hG8⟩
                      have hS8 := hS.step hG8
                      have hE8 := hS.keep hG8 hE (by decide)
                      have q5 : w8.cell? ⟨E, 5, none⟩ = some (.slice oV x.vars.length x.varsS.c) := cell_of_block hE8 rfl
                      rw [← hU2, ← List.append_assoc] at heq
                      generalize l ++ num (x.vars.length : Int) = l8 at *
                      clear hG8 hS hE hU2 hll
                      go_wp2_with fail
                      go_loopw [3, 197] (fun s3 s197 wr => ∃ (j : Nat) (l : List UInt8) (v' : Value), v' = s3 ∧ s197 = .int .i64 (j : Int) ∧ j ≤ x.vars.length ∧ St w.heap.size w wr v' l ∧ wr.heap[E]? = some (.cells #[.string x.name, .int .i64 x.params, .int .i64 x.slots, .slice oC x.code.length x.codeS.c, .slice oH x.hs.length x.hsS.c, .slice oV x.vars.length x.varsS.c] 112 (0, 0)) ∧ l ++ ((x.vars.drop j).flatMap vr ++ T3) = BD) (fun _ s197 _ => x.vars.length - (intOf s197).toNat)
                      case atStart => exact ⟨0, l8, v8, rfl, rfl, Nat.zero_le _, hS8, hE8, heq⟩
                      case round =>
                        clear hS8 heq hE8 q5
                        obtain ⟨j, l, v', rfl, rfl, hj, hS, hE, heq⟩ := hrel
                        have hll := len_of heq hN
                        by_cases hjn : j < x.vars.length
                        · obtain ⟨y, hy⟩ : ∃ y, x.vars[j]? = some y := ⟨_, List.getElem?_eq_getElem hjn⟩
                          have hjd : decide ((j : Int) < (x.vars.length : Int)) = true := by simp; omega
                          obtain rfl := aV (by omega)
                          have hyo := oV' y (List.mem_of_getElem? hy)
                          unfold VrOk i64 at hyo
                          obtain ⟨_, ⟨y0, y1⟩, ⟨y2, y3⟩, ⟨y4, y5⟩⟩ := hyo
                          have m0 := num_len y0 y1
                          have m1 := num_len y2 y3
                          have m2 := num_len y4 y5
                          have hyr : Row wr x.varsS.b (x.varsS.o + j * 5) y.vals := (rV j y hy).below hS.low (Nat.le_refl _)
                          have f0 : wr.cell? ⟨x.varsS.b, x.varsS.o + j * 5, none⟩ = some (.string y.name) := hyr 0 _ rfl
                          have f1 : wr.cell? ⟨x.varsS.b, x.varsS.o + j * 5 + 1, none⟩ = some (.int .i64 y.slot) := hyr 1 _ rfl
                          have f2 : wr.cell? ⟨x.varsS.b, x.varsS.o + j * 5 + 2, none⟩ = some (.int .i64 y.f) := hyr 2 _ rfl
                          have f3 : wr.cell? ⟨x.varsS.b, x.varsS.o + j * 5 + 3, none⟩ = some (.int .i64 y.t) := hyr 3 _ rfl
                          have f4 : wr.cell? ⟨x.varsS.b, x.varsS.o + j * 5 + 4, none⟩ = some (.bool y.boxed) := hyr 4 _ rfl
                          obtain ⟨bx, hbx⟩ : ∃ b : Int, (if y.boxed then 1 else 0) = b := ⟨_, rfl⟩
                          have hb01 : 0 ≤ bx ∧ bx ≤ 1 := by rw [← hbx]; split <;> omega
                          have m3 := num_len (n := bx) (by omega) (by omega)
                          rw [drop_flat vr hy, List.append_assoc, show vr y = txt y.name ++ num y.slot ++ num y.f ++ num y.t ++ num (if y.boxed then 1 else 0) from rfl, hbx] at heq
                          have heq2 : l ++ (txt y.name ++ (num y.slot ++ (num y.f ++ (num y.t ++ (num bx ++ ((x.vars.drop (j + 1)).flatMap vr ++ T3)))))) = BD := by
                            simp only [List.append_assoc] at heq
                            exact heq
                          clear heq
                          have hxs : y.name.size ≤ 35184372088832 := text_le heq2 hN
                          have hl4 : (l ++ txt y.name).length ≤ 35184372088832 := len_of (l := l ++ txt y.name) (body := BD) (by rw [List.append_assoc]; exact heq2) hN
                          have hl5 : (l ++ txt y.name ++ num y.slot).length ≤ 35184372088842 := by rw [List.length_append]; omega
                          have hl6 : (l ++ txt y.name ++ num y.slot ++ num y.f).length ≤ 35184372088852 := by rw [List.length_append]; omega
                          have hl7 : (l ++ txt y.name ++ num y.slot ++ num y.f ++ num y.t).length ≤ 35184372088862 := by rw [List.length_append]; omega
                          have hF := heap_alloc_new wr (.cells #[.string y.name, .int .i64 y.slot, .int .i64 y.f, .int .i64 y.t, .bool y.boxed] 140)
                          have hS3 := hS.alloc (.cells #[.string y.name, .int .i64 y.slot, .int .i64 y.f, .int .i64 y.t, .bool y.boxed] 140)
                          have hE3 := (Below.heap_alloc wr (.cells #[.string y.name, .int .i64 y.slot, .int .i64 y.f, .int .i64 y.t, .bool y.boxed] 140) E (lt_of_block hE)).trans hE
                          clear rV aV hyr
                          cases hby : y.boxed
                          · rw [hby] at f4 hF hS3 hE3 hbx
                            have hbx' : bx = 0 := by simpa using hbx.symm
                            subst hbx'
                            clear hbx
                            go_wp2_with fail
                            generalize wr.alloc (.cells #[.string y.name, .int .i64 y.slot, .int .i64 y.f, .int .i64 y.t, .bool false] 140) = w3 at *
                            generalize wr.heap.size = F at *
                            have p0 : w3.cell? ⟨F, 0, none⟩ = some (.string y.name) := cell_of_block hF rfl
                            have p1 : w3.cell? ⟨F, 1, none⟩ = some (.int .i64 y.slot) := cell_of_block hF rfl
                            have p2 : w3.cell? ⟨F, 2, none⟩ = some (.int .i64 y.f) := cell_of_block hF rfl
                            have p3 : w3.cell? ⟨F, 3, none⟩ = some (.int .i64 y.t) := cell_of_block hF rfl
                            refine RegT.begin (S := fun wz => wz.cell? ⟨F, 0, none⟩ = some (.string y.name) ∧ wz.cell? ⟨F, 1, none⟩ = some (.int .i64 y.slot) ∧ wz.cell? ⟨F, 2, none⟩ = some (.int .i64 y.f) ∧ wz.cell? ⟨F, 3, none⟩ = some (.int .i64 y.t)) (L := 15) (by kernel_rfl) ?_ (fun hHeld => ?_)
                            · (try dsimp only); go_keep
                            refine RegT.take (i := 0) (v := ?_) rfl (by kernel_rfl) (by kernel_rfl) (by kernel_rfl) (by kernel_rfl) (fun _ _ _ h => h) (Or.inl ⟨by rfl, ?_⟩) (by assumption) ?_
                            rotate_left
                            · intro w hSw; (try dsimp only at hSw); go_simp; first | done | with_reducible rfl
                            try simp only [Act.put, List.setIfInBounds_toArray, List.set_cons_zero, List.set_cons_succ]
                            refine RegT.take (i := 1) (v := ?_) rfl (by kernel_rfl) (by kernel_rfl) (by kernel_rfl) (by kernel_rfl) (fun _ _ _ h => h) (Or.inl ⟨by rfl, ?_⟩) (by assumption) ?_
                            rotate_left
                            · intro w hSw; (try dsimp only at hSw); go_simp; first | done | with_reducible rfl
                            try simp only [Act.put, List.setIfInBounds_toArray, List.set_cons_zero, List.set_cons_succ]
                            refine RegT.take (i := 2) (v := ?_) rfl (by kernel_rfl) (by kernel_rfl) (by kernel_rfl) (by kernel_rfl) (fun _ _ _ h => h) (Or.inl ⟨by rfl, ?_⟩) (by assumption) ?_
                            rotate_left
                            · intro w hSw; (try dsimp only at hSw); go_simp; first | done | with_reducible rfl
                            try simp only [Act.put, List.setIfInBounds_toArray, List.set_cons_zero, List.set_cons_succ]
                            refine RegT.take (i := 4) (v := ?_) rfl (by kernel_rfl) (by kernel_rfl) (by kernel_rfl) (by kernel_rfl) (fun _ _ _ h => h) (Or.inl ⟨by rfl, ?_⟩) (by assumption) ?_
                            rotate_left
                            · intro w hSw; (try dsimp only at hSw); go_simp; first | done | with_reducible rfl
                            try simp only [Act.put, List.setIfInBounds_toArray, List.set_cons_zero, List.set_cons_succ]
                            refine RegT.take (i := 5) (v := ?_) rfl (by kernel_rfl) (by kernel_rfl) (by kernel_rfl) (by kernel_rfl) (fun _ _ _ h => h) (Or.inl ⟨by rfl, ?_⟩) (by assumption) ?_
                            rotate_left
                            · intro w hSw; (try dsimp only at hSw); go_simp; first | done | with_reducible rfl
                            try simp only [Act.put, List.setIfInBounds_toArray, List.set_cons_zero, List.set_cons_succ]
                            refine RegT.take (i := 7) (v := ?_) rfl (by kernel_rfl) (by kernel_rfl) (by kernel_rfl) (by kernel_rfl) (fun _ _ _ h => h) (Or.inl ⟨by rfl, ?_⟩) (by assumption) ?_
                            rotate_left
                            · intro w hSw; (try dsimp only at hSw); go_simp; first | done | with_reducible rfl
                            try simp only [Act.put, List.setIfInBounds_toArray, List.set_cons_zero, List.set_cons_succ]
                            refine RegT.take (i := 8) (v := ?_) rfl (by kernel_rfl) (by kernel_rfl) (by kernel_rfl) (by kernel_rfl) (fun _ _ _ h => h) (Or.inl ⟨by rfl, ?_⟩) (by assumption) ?_
                            rotate_left
                            · intro w hSw; (try dsimp only at hSw); go_simp; first | done | with_reducible rfl
                            try simp only [Act.put, List.setIfInBounds_toArray, List.set_cons_zero, List.set_cons_succ]
                            refine RegT.take (i := 10) (v := ?_) rfl (by kernel_rfl) (by kernel_rfl) (by kernel_rfl) (by kernel_rfl) (fun _ _ _ h => h) (Or.inl ⟨by rfl, ?_⟩) (by assumption) ?_
                            rotate_left
                            · intro w hSw; (try dsimp only at hSw); go_simp; first | done | with_reducible rfl
                            try simp only [Act.put, List.setIfInBounds_toArray, List.set_cons_zero, List.set_cons_succ]
                            refine RegT.take (i := 11) (v := ?_) rfl (by kernel_rfl) (by kernel_rfl) (by kernel_rfl) (by kernel_rfl) (fun _ _ _ h => h) (Or.inl ⟨by rfl, ?_⟩) (by assumption) ?_
                            rotate_left
                            · intro w hSw; (try dsimp only at hSw); go_simp; first | done | with_reducible rfl
                            try simp only [Act.put, List.setIfInBounds_toArray, List.set_cons_zero, List.set_cons_succ]
                            refine RegT.take (i := 13) (v := ?_) rfl (by kernel_rfl) (by kernel_rfl) (by kernel_rfl) (by kernel_rfl) (fun _ _ _ h => h) (Or.inl ⟨by rfl, ?_⟩) (by assumption) ?_
                            rotate_left
                            · intro w hSw; (try dsimp only at hSw); go_simp; first | done | with_reducible rfl
                            try simp only [Act.put, List.setIfInBounds_toArray, List.set_cons_zero, List.set_cons_succ]
                            refine RegT.one (i := 3) (by kernel_rfl) rfl (fun K hK => ?_)
                            go_simp
                            refine (putText_any w.heap.size v' l y.name _ hS3.drew.row hS3.drew.le (by omega) hxs).mono ?_
                            rintro e w4 ⟨v4, rfl, hG4⟩
                            have hS4 := hS3.drew.step hG4
                            have hF4 := hS3.drew.keep hG4 hF (by decide)
                            have hE4 := hS3.drew.keep hG4 hE3 (by decide)
                            refine hK.out _ _ ⟨cell_of_block hF4 (i := 0) rfl, cell_of_block hF4 (i := 1) rfl, cell_of_block hF4 (i := 2) rfl, cell_of_block hF4 (i := 3) rfl⟩ (fun hHeld => ?_)
                            clear hK K
                            try simp only [Act.put, List.setIfInBounds_toArray, List.set_cons_zero, List.set_cons_succ]
                            refine RegT.one (i := 6) (by kernel_rfl) rfl (fun K hK => ?_)
                            go_simp
                            refine (put_any w.heap.size v4 (l ++ txt y.name) y.slot _ (Or.inl hS4.row) hS4.le y0 y1 (by omega)).mono ?_
                            rintro e w5 ⟨v5, rfl, hG5⟩
                            have hS5 := hS4.step hG5
                            have hF5 := hS4.keep hG5 hF4 (by decide)
                            have hE5 := hS4.keep hG5 hE4 (by decide)
                            refine hK.out _ _ ⟨cell_of_block hF5 (i := 0) rfl, cell_of_block hF5 (i := 1) rfl, cell_of_block hF5 (i := 2) rfl, cell_of_block hF5 (i := 3) rfl⟩ (fun hHeld => ?_)
                            clear hK K
                            try simp only [Act.put, List.setIfInBounds_toArray, List.set_cons_zero, List.set_cons_succ]
                            refine RegT.one (i := 9) (by kernel_rfl) rfl (fun K hK => ?_)
                            go_simp
                            refine (put_any w.heap.size v5 (l ++ txt y.name ++ num y.slot) y.f _ (Or.inl hS5.row) hS5.le y2 y3 (by omega)).mono ?_
                            rintro e w6 ⟨v6, rfl, hG6⟩
                            have hS6 := hS5.step hG6
                            have hF6 := hS5.keep hG6 hF5 (by decide)
                            have hE6 := hS5.keep hG6 hE5 (by decide)
                            refine hK.out _ _ ⟨cell_of_block hF6 (i := 0) rfl, cell_of_block hF6 (i := 1) rfl, cell_of_block hF6 (i := 2) rfl, cell_of_block hF6 (i := 3) rfl⟩ (fun hHeld => ?_)
                            clear hK K
                            try simp only [Act.put, List.setIfInBounds_toArray, List.set_cons_zero, List.set_cons_succ]
                            refine RegT.one (i := 12) (by kernel_rfl) rfl (fun K hK => ?_)
                            go_simp
                            refine (put_any w.heap.size v6 (l ++ txt y.name ++ num y.slot ++ num y.f) y.t _ (Or.inl hS6.row) hS6.le y4 y5 (by omega)).mono ?_
                            rintro e w7 ⟨v7, rfl, hG7⟩
                            have hS7 := hS6.step hG7
                            have hF7 := hS6.keep hG7 hF6 (by decide)
                            have hE7 := hS6.keep hG7 hE6 (by decide)
                            refine hK.out _ _ ⟨cell_of_block hF7 (i := 0) rfl, cell_of_block hF7 (i := 1) rfl, cell_of_block hF7 (i := 2) rfl, cell_of_block hF7 (i := 3) rfl⟩ (fun hHeld => ?_)
                            clear hK K
                            try simp only [Act.put, List.setIfInBounds_toArray, List.set_cons_zero, List.set_cons_succ]
                            refine RegT.one (i := 14) (by kernel_rfl) rfl (fun K hK => ?_)
                            go_simp
                            refine (put_any w.heap.size v7 (l ++ txt y.name ++ num y.slot ++ num y.f ++ num y.t) 0 _ (Or.inl hS7.row) hS7.le (by decide) (by decide) (by omega)).mono ?_
                            rintro e w8 ⟨v8, rfl, hG8⟩
                            have hS8 := hS7.step hG8
                            have hF8 := hS7.keep hG8 hF7 (by decide)
                            have hE8 := hS7.keep hG8 hE7 (by decide)
                            refine hK.out _ _ ⟨cell_of_block hF8 (i := 0) rfl, cell_of_block hF8 (i := 1) rfl, cell_of_block hF8 (i := 2) rfl, cell_of_block hF8 (i := 3) rfl⟩ (fun hHeld => ?_)
                            clear hK K
                            try simp only [Act.put, List.setIfInBounds_toArray, List.set_cons_zero, List.set_cons_succ]
                            refine RegT.last (by kernel_rfl) rfl (by kernel_rfl) (fun K hK => ?_)
                            go_simp
                            refine hK.out _ _ ?_
                            clear hK K
                            try simp only [Act.put, List.setIfInBounds_toArray, List.set_cons_zero, List.set_cons_succ]
                            go_wp2
                            go_roundw
                            case rel => exact ⟨j + 1, _, _, rfl, by simp, by omega, hS8, hE8, by (simp only [List.append_assoc] at heq2 ⊢; exact heq2)⟩
                            case measure => simp [intOf]; omega
                          · rw [hby] at f4 hF hS3 hE3 hbx
                            have hbx' : bx = 1 := by simpa using hbx.symm
                            subst hbx'
                            clear hbx
                            go_wp2_with fail
                            generalize wr.alloc (.cells #[.string y.name, .int .i64 y.slot, .int .i64 y.f, .int .i64 y.t, .bool true] 140) = w3 at *
                            generalize wr.heap.size = F at *
                            have p0 : w3.cell? ⟨F, 0, none⟩ = some (.string y.name) := cell_of_block hF rfl
                            have p1 : w3.cell? ⟨F, 1, none⟩ = some (.int .i64 y.slot) := cell_of_block hF rfl
                            have p2 : w3.cell? ⟨F, 2, none⟩ = some (.int .i64 y.f) := cell_of_block hF rfl
                            have p3 : w3.cell? ⟨F, 3, none⟩ = some (.int .i64 y.t) := cell_of_block hF rfl
                            refine RegT.begin (S := fun wz => wz.cell? ⟨F, 0, none⟩ = some (.string y.name) ∧ wz.cell? ⟨F, 1, none⟩ = some (.int .i64 y.slot) ∧ wz.cell? ⟨F, 2, none⟩ = some (.int .i64 y.f) ∧ wz.cell? ⟨F, 3, none⟩ = some (.int .i64 y.t)) (L := 15) (by kernel_rfl) ?_ (fun hHeld => ?_)
                            · (try dsimp only); go_keep
                            refine RegT.take (i := 0) (v := ?_) rfl (by kernel_rfl) (by kernel_rfl) (by kernel_rfl) (by kernel_rfl) (fun _ _ _ h => h) (Or.inl ⟨by rfl, ?_⟩) (by assumption) ?_
                            rotate_left
                            · intro w hSw; (try dsimp only at hSw); go_simp; first | done | with_reducible rfl
                            try simp only [Act.put, List.setIfInBounds_toArray, List.set_cons_zero, List.set_cons_succ]
                            refine RegT.take (i := 1) (v := ?_) rfl (by kernel_rfl) (by kernel_rfl) (by kernel_rfl) (by kernel_rfl) (fun _ _ _ h => h) (Or.inl ⟨by rfl, ?_⟩) (by assumption) ?_
                            rotate_left
                            · intro w hSw; (try dsimp only at hSw); go_simp; first | done | with_reducible rfl
                            try simp only [Act.put, List.setIfInBounds_toArray, List.set_cons_zero, List.set_cons_succ]
                            refine RegT.take (i := 2) (v := ?_) rfl (by kernel_rfl) (by kernel_rfl) (by kernel_rfl) (by kernel_rfl) (fun _ _ _ h => h) (Or.inl ⟨by rfl, ?_⟩) (by assumption) ?_
                            rotate_left
                            · intro w hSw; (try dsimp only at hSw); go_simp; first | done | with_reducible rfl
                            try simp only [Act.put, List.setIfInBounds_toArray, List.set_cons_zero, List.set_cons_succ]
                            refine RegT.take (i := 4) (v := ?_) rfl (by kernel_rfl) (by kernel_rfl) (by kernel_rfl) (by kernel_rfl) (fun _ _ _ h => h) (Or.inl ⟨by rfl, ?_⟩) (by assumption) ?_
                            rotate_left
                            · intro w hSw; (try dsimp only at hSw); go_simp; first | done | with_reducible rfl
                            try simp only [Act.put, List.setIfInBounds_toArray, List.set_cons_zero, List.set_cons_succ]
                            refine RegT.take (i := 5) (v := ?_) rfl (by kernel_rfl) (by kernel_rfl) (by kernel_rfl) (by kernel_rfl) (fun _ _ _ h => h) (Or.inl ⟨by rfl, ?_⟩) (by assumption) ?_
                            rotate_left
                            · intro w hSw; (try dsimp only at hSw); go_simp; first | done | with_reducible rfl
                            try simp only [Act.put, List.setIfInBounds_toArray, List.set_cons_zero, List.set_cons_succ]
                            refine RegT.take (i := 7) (v := ?_) rfl (by kernel_rfl) (by kernel_rfl) (by kernel_rfl) (by kernel_rfl) (fun _ _ _ h => h) (Or.inl ⟨by rfl, ?_⟩) (by assumption) ?_
                            rotate_left
                            · intro w hSw; (try dsimp only at hSw); go_simp; first | done | with_reducible rfl
                            try simp only [Act.put, List.setIfInBounds_toArray, List.set_cons_zero, List.set_cons_succ]
                            refine RegT.take (i := 8) (v := ?_) rfl (by kernel_rfl) (by kernel_rfl) (by kernel_rfl) (by kernel_rfl) (fun _ _ _ h => h) (Or.inl ⟨by rfl, ?_⟩) (by assumption) ?_
                            rotate_left
                            · intro w hSw; (try dsimp only at hSw); go_simp; first | done | with_reducible rfl
                            try simp only [Act.put, List.setIfInBounds_toArray, List.set_cons_zero, List.set_cons_succ]
                            refine RegT.take (i := 10) (v := ?_) rfl (by kernel_rfl) (by kernel_rfl) (by kernel_rfl) (by kernel_rfl) (fun _ _ _ h => h) (Or.inl ⟨by rfl, ?_⟩) (by assumption) ?_
                            rotate_left
                            · intro w hSw; (try dsimp only at hSw); go_simp; first | done | with_reducible rfl
                            try simp only [Act.put, List.setIfInBounds_toArray, List.set_cons_zero, List.set_cons_succ]
                            refine RegT.take (i := 11) (v := ?_) rfl (by kernel_rfl) (by kernel_rfl) (by kernel_rfl) (by kernel_rfl) (fun _ _ _ h => h) (Or.inl ⟨by rfl, ?_⟩) (by assumption) ?_
                            rotate_left
                            · intro w hSw; (try dsimp only at hSw); go_simp; first | done | with_reducible rfl
                            try simp only [Act.put, List.setIfInBounds_toArray, List.set_cons_zero, List.set_cons_succ]
                            refine RegT.take (i := 13) (v := ?_) rfl (by kernel_rfl) (by kernel_rfl) (by kernel_rfl) (by kernel_rfl) (fun _ _ _ h => h) (Or.inl ⟨by rfl, ?_⟩) (by assumption) ?_
                            rotate_left
                            · intro w hSw; (try dsimp only at hSw); go_simp; first | done | with_reducible rfl
                            try simp only [Act.put, List.setIfInBounds_toArray, List.set_cons_zero, List.set_cons_succ]
                            refine RegT.one (i := 3) (by kernel_rfl) rfl (fun K hK => ?_)
                            go_simp
                            refine (putText_any w.heap.size v' l y.name _ hS3.drew.row hS3.drew.le (by omega) hxs).mono ?_
                            rintro e w4 ⟨v4, rfl, hG4⟩
                            have hS4 := hS3.drew.step hG4
                            have hF4 := hS3.drew.keep hG4 hF (by decide)
                            have hE4 := hS3.drew.keep hG4 hE3 (by decide)
                            refine hK.out _ _ ⟨cell_of_block hF4 (i := 0) rfl, cell_of_block hF4 (i := 1) rfl, cell_of_block hF4 (i := 2) rfl, cell_of_block hF4 (i := 3) rfl⟩ (fun hHeld => ?_)
                            clear hK K
                            try simp only [Act.put, List.setIfInBounds_toArray, List.set_cons_zero, List.set_cons_succ]
                            refine RegT.one (i := 6) (by kernel_rfl) rfl (fun K hK => ?_)
                            go_simp
                            refine (put_any w.heap.size v4 (l ++ txt y.name) y.slot _ (Or.inl hS4.row) hS4.le y0 y1 (by omega)).mono ?_
                            rintro e w5 ⟨v5, rfl, hG5⟩
                            have hS5 := hS4.step hG5
                            have hF5 := hS4.keep hG5 hF4 (by decide)
                            have hE5 := hS4.keep hG5 hE4 (by decide)
                            refine hK.out _ _ ⟨cell_of_block hF5 (i := 0) rfl, cell_of_block hF5 (i := 1) rfl, cell_of_block hF5 (i := 2) rfl, cell_of_block hF5 (i := 3) rfl⟩ (fun hHeld => ?_)
                            clear hK K
                            try simp only [Act.put, List.setIfInBounds_toArray, List.set_cons_zero, List.set_cons_succ]
                            refine RegT.one (i := 9) (by kernel_rfl) rfl (fun K hK => ?_)
                            go_simp
                            refine (put_any w.heap.size v5 (l ++ txt y.name ++ num y.slot) y.f _ (Or.inl hS5.row) hS5.le y2 y3 (by omega)).mono ?_
                            rintro e w6 ⟨v6, rfl, hG6⟩
                            have hS6 := hS5.step hG6
                            have hF6 := hS5.keep hG6 hF5 (by decide)
                            have hE6 := hS5.keep hG6 hE5 (by decide)
                            refine hK.out _ _ ⟨cell_of_block hF6 (i := 0) rfl, cell_of_block hF6 (i := 1) rfl, cell_of_block hF6 (i := 2) rfl, cell_of_block hF6 (i := 3) rfl⟩ (fun hHeld => ?_)
                            clear hK K
                            try simp only [Act.put, List.setIfInBounds_toArray, List.set_cons_zero, List.set_cons_succ]
                            refine RegT.one (i := 12) (by kernel_rfl) rfl (fun K hK => ?_)
                            go_simp
                            refine (put_any w.heap.size v6 (l ++ txt y.name ++ num y.slot ++ num y.f) y.t _ (Or.inl hS6.row) hS6.le y4 y5 (by omega)).mono ?_
                            rintro e w7 ⟨v7, rfl, hG7⟩
                            have hS7 := hS6.step hG7
                            have hF7 := hS6.keep hG7 hF6 (by decide)
                            have hE7 := hS6.keep hG7 hE6 (by decide)
                            refine hK.out _ _ ⟨cell_of_block hF7 (i := 0) rfl, cell_of_block hF7 (i := 1) rfl, cell_of_block hF7 (i := 2) rfl, cell_of_block hF7 (i := 3) rfl⟩ (fun hHeld => ?_)
                            clear hK K
                            try simp only [Act.put, List.setIfInBounds_toArray, List.set_cons_zero, List.set_cons_succ]
                            refine RegT.one (i := 14) (by kernel_rfl) rfl (fun K hK => ?_)
                            go_simp
                            refine (put_any w.heap.size v7 (l ++ txt y.name ++ num y.slot ++ num y.f ++ num y.t) 1 _ (Or.inl hS7.row) hS7.le (by decide) (by decide) (by omega)).mono ?_
                            rintro e w8 ⟨v8, rfl, hG8⟩
                            have hS8 := hS7.step hG8
                            have hF8 := hS7.keep hG8 hF7 (by decide)
                            have hE8 := hS7.keep hG8 hE7 (by decide)
                            refine hK.out _ _ ⟨cell_of_block hF8 (i := 0) rfl, cell_of_block hF8 (i := 1) rfl, cell_of_block hF8 (i := 2) rfl, cell_of_block hF8 (i := 3) rfl⟩ (fun hHeld => ?_)
                            clear hK K
                            try simp only [Act.put, List.setIfInBounds_toArray, List.set_cons_zero, List.set_cons_succ]
                            refine RegT.last (by kernel_rfl) rfl (by kernel_rfl) (fun K hK => ?_)
                            go_simp
                            refine hK.out _ _ ?_
                            clear hK K
                            try simp only [Act.put, List.setIfInBounds_toArray, List.set_cons_zero, List.set_cons_succ]
                            go_wp2
                            go_roundw
                            case rel => exact ⟨j + 1, _, _, rfl, by simp, by omega, hS8, hE8, by (simp only [List.append_assoc] at heq2 ⊢; exact heq2)⟩
                            case measure => simp [intOf]; omega
                        · obtain rfl : j = x.vars.length := by omega
                          have hjd : decide ((x.vars.length : Int) < (x.vars.length : Int)) = false := by simp
                          rw [drop_all, List.nil_append, ← hT3] at heq
                          clear rV aV
                          go_wp2
                          go_roundw
                          case rel => exact ⟨k + 1, _, _, rfl, by simp, by omega, hS, heq⟩
                          case measure => simp [intOf]; omega
            · obtain rfl : k = m.funcs.length := by omega
              have hkd : decide ((m.funcs.length : Int) < (m.funcs.length : Int)) = false := by simp
              rw [drop_all, List.append_nil] at heq
              subst heq
              clear hrow0 a0
              go_wp2_with fail
              refine (sum_bu hS.row (by omega)).mono ?_
              rintro e w2 ⟨rfl, hw2⟩
              subst hw2
              have hlt := sumB_lt l
              go_wp2_with fail
              refine (put_any w.heap.size v' l (sumB l : Int) _ (Or.inl hS.row) hS.le (by omega) (by omega) (by omega)).mono ?_
              rintro e w3 ⟨v3, rfl, hG3⟩
              have hS3 := hS.step hG3
              go_wp2
              go_ret
              exact ⟨_, rfl, hS3.row, hS3.low⟩
end Go.Proofs.YthbkklnahhdgcaaDoor.EncC
