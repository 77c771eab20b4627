/-
  The document's Encode, at an image that lies in memory.
-/
import Derived.Test.YthbkklnahhdgcaaDoorDEncC
import Derived.Test.YthbkklnahhdgcaaDoorDEncD
namespace Go.Proofs.YthbkklnahhdgcaaDoor.EncE
open Go Go.Proofs Go.RowKit Lib CodeR CodeA CodeB CodeL CodeO EncA EncB EncS EncC EncD

/-- Where the document's encoding stands. -/
structure SW (B : Nat) (w0 w : World) (pb : Nat) (v : Value) (l : List UInt8) : Prop where
  wr : Wr w B pb v l
  row : Bu w B v l
  low : Below B w0 w
  le : B ≤ w.heap.size
/-- Blocks of other types stay. -/
def Keeps (w w' : World) : Prop := ∀ (E : Nat) (c : Array Value) (T : TypeId) (f : Nat × Nat), w.heap[E]? = some (.cells c T f) → T ≠ 5 → T ≠ 152 → w'.heap[E]? = some (.cells c T f)
theorem SW.alloc {B : Nat} {w0 w : World} {pb : Nat} {v : Value} {l : List UInt8} (h : SW B w0 w pb v l) (o : Obj) : SW B w0 (w.alloc o) pb v l := ⟨h.wr.alloc o, h.row.alloc o, h.low.alloc h.le o, Nat.le_trans h.le (by simp)⟩
theorem numS {B : Nat} {w0 w : World} {pb : Nat} {v : Value} {l : List UInt8} (h : SW B w0 w pb v l) (ns : List Int) (hns : ∀ n ∈ ns, -9223372036854775808 ≤ n ∧ n ≤ 9223372036854775807) (hne : ns ≠ []) (hl : l.length + ns.length * 10 ≤ 70368744177664) (c : Nat) :
    Calls Tryd.prog 46 #[.pointer (some ⟨pb, 0, none⟩), .slice (some ⟨w.heap.size, 0, none⟩) ns.length c] (w.alloc (.cells (ns.map (Value.int .i64)).toArray 3)) fun e w' => e = .returned (.tuple #[]) ∧ ∃ v', SW B w0 w' pb v' (l ++ ns.flatMap num) ∧ Keeps w w' := by
  have h1 := h.alloc (.cells (ns.map (Value.int .i64)).toArray 3)
  refine (num_any B pb v l ns w.heap.size c _ h1.wr h1.le (heap_alloc_new w _) hns hl).mono ?_
  rintro e w' ⟨rfl, v', hW, hst, hG⟩
  refine ⟨rfl, v', ⟨hW, hst.resolve_left hne, h1.low.trans (h1.wr.below hG h1.le), Nat.le_trans h1.le hG.turned.size⟩, ?_⟩
  intro E c T f hE hT hT2
  exact h1.wr.keep hG ((Below.heap_alloc w _ E (lt_of_block hE)).trans hE) hT hT2
theorem num1S {B : Nat} {w0 w : World} {pb : Nat} {v : Value} {l : List UInt8} (h : SW B w0 w pb v l) (a : Int) (ha : -9223372036854775808 ≤ a ∧ a ≤ 9223372036854775807) (hl : l.length ≤ 70368744177600) :
    Calls Tryd.prog 46 #[.pointer (some ⟨pb, 0, none⟩), .slice (some ⟨w.heap.size, 0, none⟩) 1 1] (w.alloc (.cells #[.int .i64 a] 3)) fun e w' => e = .returned (.tuple #[]) ∧ ∃ v', SW B w0 w' pb v' (l ++ num a) ∧ Keeps w w' := by
  have := numS h [a] (by intro n hn; rw [List.mem_singleton.mp hn]; exact ha) (by simp) (by simp; omega) 1
  simpa using this
theorem num2S {B : Nat} {w0 w : World} {pb : Nat} {v : Value} {l : List UInt8} (h : SW B w0 w pb v l) (a b : Int) (ha : -9223372036854775808 ≤ a ∧ a ≤ 9223372036854775807) (hb : -9223372036854775808 ≤ b ∧ b ≤ 9223372036854775807) (hl : l.length ≤ 70368744177600) :
    Calls Tryd.prog 46 #[.pointer (some ⟨pb, 0, none⟩), .slice (some ⟨w.heap.size, 0, none⟩) 2 2] (w.alloc (.cells #[.int .i64 a, .int .i64 b] 3)) fun e w' => e = .returned (.tuple #[]) ∧ ∃ v', SW B w0 w' pb v' (l ++ (num a ++ num b)) ∧ Keeps w w' := by
  have := numS h [a, b] (by intro n hn; simp at hn; rcases hn with rfl | rfl <;> assumption) (by simp) (by simp; omega) 2
  simpa using this
theorem num3S {B : Nat} {w0 w : World} {pb : Nat} {v : Value} {l : List UInt8} (h : SW B w0 w pb v l) (a b d : Int) (ha : -9223372036854775808 ≤ a ∧ a ≤ 9223372036854775807) (hb : -9223372036854775808 ≤ b ∧ b ≤ 9223372036854775807) (hd : -9223372036854775808 ≤ d ∧ d ≤ 9223372036854775807) (hl : l.length ≤ 70368744177600) :
    Calls Tryd.prog 46 #[.pointer (some ⟨pb, 0, none⟩), .slice (some ⟨w.heap.size, 0, none⟩) 3 3] (w.alloc (.cells #[.int .i64 a, .int .i64 b, .int .i64 d] 3)) fun e w' => e = .returned (.tuple #[]) ∧ ∃ v', SW B w0 w' pb v' (l ++ (num a ++ (num b ++ num d))) ∧ Keeps w w' := by
  have := numS h [a, b, d] (by intro n hn; simp at hn; rcases hn with rfl | rfl | rfl <;> assumption) (by simp) (by simp; omega) 3
  simpa using this
theorem num4S {B : Nat} {w0 w : World} {pb : Nat} {v : Value} {l : List UInt8} (h : SW B w0 w pb v l) (a b d g : Int) (ha : -9223372036854775808 ≤ a ∧ a ≤ 9223372036854775807) (hb : -9223372036854775808 ≤ b ∧ b ≤ 9223372036854775807) (hd : -9223372036854775808 ≤ d ∧ d ≤ 9223372036854775807) (hg : -9223372036854775808 ≤ g ∧ g ≤ 9223372036854775807) (hl : l.length ≤ 70368744177600) :
    Calls Tryd.prog 46 #[.pointer (some ⟨pb, 0, none⟩), .slice (some ⟨w.heap.size, 0, none⟩) 4 4] (w.alloc (.cells #[.int .i64 a, .int .i64 b, .int .i64 d, .int .i64 g] 3)) fun e w' => e = .returned (.tuple #[]) ∧ ∃ v', SW B w0 w' pb v' (l ++ (num a ++ (num b ++ (num d ++ num g)))) ∧ Keeps w w' := by
  have := numS h [a, b, d, g] (by intro n hn; simp at hn; rcases hn with rfl | rfl | rfl | rfl <;> assumption) (by simp) (by simp; omega) 4
  simpa using this
theorem textS {B : Nat} {w0 w : World} {pb : Nat} {v : Value} {l : List UInt8} (h : SW B w0 w pb v l) (s : ByteArray) (hl : l.length ≤ 70368744177600) (hs : s.size ≤ 35184372088832) :
    Calls Tryd.prog 47 #[.pointer (some ⟨pb, 0, none⟩), .string s] w fun e w' => e = .returned (.tuple #[]) ∧ ∃ v', SW B w0 w' pb v' (l ++ txt s) ∧ Keeps w w' := by
  refine (text_any B pb v l s w h.wr h.le hl hs).mono ?_
  rintro e w' ⟨rfl, v', hW, hU, hG⟩
  exact ⟨rfl, v', ⟨hW, hU, h.low.trans (h.wr.below hG h.le), Nat.le_trans h.le hG.turned.size⟩, fun E c T f hE hT hT2 => h.wr.keep hG hE hT hT2⟩
theorem row_n {w : World} {B e size n n' c : Nat} {oa : Option Addr} {xs : List Value} (h : w.ownsRow B e size (.slice oa n' c) n xs) : n' = n := by
  rcases h.2 with ⟨h1, h2⟩ | ⟨g, cap, cur, h1, _⟩
  · injection h1 with _ h3 _
    omega
  · injection h1 with _ h3 _
/-- The sum, with the factors the other way round. -/
theorem sum_flip (S b : Nat) : (S * 37 + b) % 8191 = (37 * S + b) % 8191 := by rw [Nat.mul_comm]

theorem sum_val (Sm bn : Nat) (hS : Sm < 8191) (hb : bn < 256) : (wrap64 (wrap64 ((Sm : Int) * 37) + wrap64 (bn : Int))).tmod 8191 = (((Sm * 37 + bn) % 8191 : Nat) : Int) := by
  have e1 : wrap64 ((Sm : Int) * 37) = (Sm : Int) * 37 := by unfold wrap64; omega
  have e2 : wrap64 (bn : Int) = (bn : Int) := by unfold wrap64; omega
  have e3 : wrap64 ((Sm : Int) * 37 + (bn : Int)) = (Sm : Int) * 37 + (bn : Int) := by unfold wrap64; omega
  rw [e1, e2, e3, Int.tmod_eq_emod_of_nonneg (by omega)]
  omega

set_option maxRecDepth 100000 in
set_option maxHeartbeats 20000000 in
theorem Encode_any (mb mo : Nat) (m : Im) (w : World) (hm : Row w mb mo m.vals) (hi : ImIn w m) (hok : ImOk m) (hnm : ∀ c ∈ m.classes, c.names.length = c.methods.length) (hN : (body m).length ≤ 35184372088832) :
    Calls Tryd.prog 25 #[.pointer (some ⟨mb, mo, none⟩)] w fun e w' => ∃ v', e = .returned v' ∧ Bu w' w.heap.size v' (enc m) ∧ Below w.heap.size w w' := by
  have c0 := (im_cells hm).1
  have c1 := (im_cells hm).2.1
  have c2 := (im_cells hm).2.2
  have hmlt := World.block_lt_of_cell? w _ c0
  have l0 := hi.funcs.len
  have l1 := hi.consts.len
  have l2 := hi.classes.len
  rw [List.length_map] at l0 l1 l2
  unfold Sl.val at c0 c1 c2
  rw [l0] at c0
  rw [l1] at c1
  rw [l2] at c2
  have a0 := hi.funcs.addr
  have a1 := hi.consts.addr
  have a2 := hi.classes.addr
  obtain ⟨oa0, ho0⟩ : ∃ oa, m.funcsS.oa = oa := ⟨_, rfl⟩
  obtain ⟨oa1, ho1⟩ : ∃ oa, m.constsS.oa = oa := ⟨_, rfl⟩
  obtain ⟨oa2, ho2⟩ : ∃ oa, m.classesS.oa = oa := ⟨_, rfl⟩
  rw [ho0] at c0 a0
  rw [ho1] at c1 a1
  rw [ho2] at c2 a2
  rw [l0] at a0
  rw [l1] at a1
  rw [l2] at a2
  clear ho0 ho1 ho2
  have k0 := hok.lens.1
  have k1 := hok.lens.2.1
  have k2 := hok.lens.2.2
  have n0 := num_len (n := (m.funcs.length : Int)) (by omega) (by omega)
  have n1 := num_len (n := (m.consts.length : Int)) (by omega) (by omega)
  have n2 := num_len (n := (m.classes.length : Int)) (by omega) (by omega)
  have hbody : head ++ (num m.consts.length ++ (m.consts.flatMap cn ++ (num m.classes.length ++ (m.classes.flatMap cl ++ (num m.funcs.length ++ m.funcs.flatMap fc))))) = body m := by
    unfold body
    simp only [List.append_assoc]
  unfold enc
  generalize body m = BD at *
  have hnA : Aside (∀ c ∈ m.classes, c.names.length = c.methods.length) := hnm
  clear hnm
  have kc := fun (w : World) (C : Array Value) (n c : Nat) => Go.Lib.run_convert_bytes_const (P := Tryd.prog) w 64 5 C n c Tryd.underlying64 Tryd.underlying5
  have hr := head_row w
  have hb1 : Below w.heap.size w (w.alloc (.cells #[.int .u8 82, .int .u8 87, .int .u8 78, .int .u8 68] 5 (4, 5))) := (Below.refl _ _).alloc (Nat.le_refl _) _
  have hs1 : (w.alloc (.cells #[.int .u8 82, .int .u8 87, .int .u8 78, .int .u8 68] 5 (4, 5))).heap.size = w.heap.size + 1 := by simp
  have d1 : ∀ o1 o2, ((w.alloc o1).alloc o2).cell? ⟨mb, mo + 1, none⟩ = some (.slice oa1 m.consts.length m.constsS.c) := fun o1 o2 => alloc_cell (alloc_cell c1 o1) o2
  go_enter Tryd.func25, Tryd.ntmps25
  go_wp2_with fail
  have hW0 : Wr ((w.alloc (.cells #[.int .u8 82, .int .u8 87, .int .u8 78, .int .u8 68] 5 (4, 5))).alloc (.cells #[.slice (some ⟨w.heap.size, 0, none⟩) 4 4] 152)) w.heap.size (w.heap.size + 1) (.slice (some ⟨w.heap.size, 0, none⟩) 4 4) head :=
    ⟨Bw.alloc (Or.inr hr) _, by have h := heap_alloc_new (w.alloc (.cells #[.int .u8 82, .int .u8 87, .int .u8 78, .int .u8 68] 5 (4, 5))) (.cells #[.slice (some ⟨w.heap.size, 0, none⟩) 4 4] 152); rw [hs1] at h; exact h, by omega⟩
  have hb2 := hb1.alloc hb1.size (.cells #[.slice (some ⟨w.heap.size, 0, none⟩) 4 4] 152)
  have hs2 : ((w.alloc (.cells #[.int .u8 82, .int .u8 87, .int .u8 78, .int .u8 68] 5 (4, 5))).alloc (.cells #[.slice (some ⟨w.heap.size, 0, none⟩) 4 4] 152)).heap.size = w.heap.size + 1 + 1 := by simp
  clear hb1 hr kc d1
  generalize (w.alloc (.cells #[.int .u8 82, .int .u8 87, .int .u8 78, .int .u8 68] 5 (4, 5))).alloc (.cells #[.slice (some ⟨w.heap.size, 0, none⟩) 4 4] 152) = w1 at *
  rw [← hs2]
  have hle1 : w.heap.size ≤ w1.heap.size := hb2.size
  have hI := heap_alloc_new w1 (.cells #[.int .i64 (m.consts.length : Int)] 3)
  refine (num_any w.heap.size (w.heap.size + 1) _ head [(m.consts.length : Int)] w1.heap.size 1 _ (hW0.alloc _) (by simp; omega) hI (by intro n hn; rw [List.mem_singleton.mp hn]; omega) (by simp [head])).mono ?_
  rintro e w2 ⟨rfl, v2, hW2, hst, hG2⟩
  rw [List.flatMap_cons, List.flatMap_nil, List.append_nil] at hW2 hst
  have hb3 : Below w.heap.size w (w1.alloc (.cells #[.int .i64 (m.consts.length : Int)] 3)) := hb2.alloc hle1 _
  have hS : SW w.heap.size w w2 (w.heap.size + 1) v2 (head ++ num (m.consts.length : Int)) := ⟨hW2, hst.resolve_left (by simp), hb3.trans ((hW0.alloc _).below hG2 hb3.size), Nat.le_trans hb3.size hG2.turned.size⟩
  rw [← List.append_assoc] at hbody
  generalize head ++ num (m.consts.length : Int) = L2 at *
  clear hW0 hI hW2 hst hG2 hb2 hb3 hs2 hle1
  generalize w.heap.size + 1 = pb at *
  have d1 := (hS.low.cell (p := ⟨mb, mo + 1, none⟩) hmlt).trans c1
  go_wp2_with fail
  obtain ⟨T1, hT1⟩ : ∃ T, num (m.classes.length : Int) ++ (m.classes.flatMap cl ++ (num (m.funcs.length : Int) ++ m.funcs.flatMap fc)) = T := ⟨_, rfl⟩
  rw [hT1] at hbody
  have hrow1 := fun (k : Nat) (x : Cn) (hx : m.consts[k]? = some x) => hi.consts.row k x.vals (by rw [List.getElem?_map, hx]; rfl)
  go_loopw [41] (fun s41 wr => ∃ (k : Nat) (l : List UInt8) (v' : Value), s41 = .int .i64 (k : Int) ∧ k ≤ m.consts.length ∧ SW w.heap.size w wr pb v' l ∧ l ++ ((m.consts.drop k).flatMap cn ++ T1) = BD) (fun s41 _ => m.consts.length - (intOf s41).toNat)
  case atStart => exact ⟨0, L2, v2, rfl, Nat.zero_le _, hS, hbody⟩
  case round =>
    clear hS hbody d1
    obtain ⟨k, l, v', rfl, hk, hS, heq⟩ := hrel
    have hll := len_of heq hN
    by_cases hkn : k < m.consts.length
    · obtain ⟨x, hx⟩ : ∃ x, m.consts[k]? = some x := ⟨_, List.getElem?_eq_getElem hkn⟩
      have hkd : decide ((k : Int) < (m.consts.length : Int)) = true := by simp; omega
      obtain rfl := a1 (by omega)
      have hxr : Row wr m.constsS.b (m.constsS.o + k * 3) x.vals := (hrow1 k x hx).below hS.low (Nat.le_refl _)
      have e0 : wr.cell? ⟨m.constsS.b, m.constsS.o + k * 3, none⟩ = some (.bool x.text) := hxr 0 _ rfl
      have e1 : wr.cell? ⟨m.constsS.b, m.constsS.o + k * 3 + 1, none⟩ = some (.string x.s) := hxr 1 _ rfl
      have e2 : wr.cell? ⟨m.constsS.b, m.constsS.o + k * 3 + 2, none⟩ = some (.int .i64 x.n) := hxr 2 _ rfl
      have hxo := hok.cn x (List.mem_of_getElem? hx)
      unfold CnOk i64 at hxo
      rw [drop_flat cn hx, List.append_assoc] at heq
      have hE := heap_alloc_new wr (.cells #[.bool x.text, .string x.s, .int .i64 x.n] 132)
      have hS3 := hS.alloc (.cells #[.bool x.text, .string x.s, .int .i64 x.n] 132)
      clear hrow1 a1 hxr
      cases htx : x.text
      · have hcn : cn x = num 0 ++ num x.n := by unfold cn; rw [htx]; rfl
        rw [hcn] at heq
        rw [htx] at e0 hE hS3
        go_wp2_with fail
        have hs3 : (wr.alloc (.cells #[.bool false, .string x.s, .int .i64 x.n] 132)).heap.size = wr.heap.size + 1 := by simp
        generalize wr.alloc (.cells #[.bool false, .string x.s, .int .i64 x.n] 132) = w3 at *
        rw [← hs3]
        refine (num2S hS3 0 x.n (by decide) hxo.2 (by omega)).mono ?_
        rintro e w4 ⟨rfl, v4, hS4, hk4⟩
        go_wp2
        go_roundw
        case rel => exact ⟨k + 1, _, _, by simp, by omega, hS4, by (simp only [List.append_assoc] at heq ⊢; exact heq)⟩
        case measure => simp [intOf]; omega
      · have hcn : cn x = num 1 ++ txt x.s := by unfold cn; rw [htx]; rfl
        rw [hcn] at heq
        have hxs : x.s.size ≤ 35184372088832 := text_le (l := l ++ num 1) (r := (m.consts.drop (k + 1)).flatMap cn ++ T1) (body := BD) (by simp only [List.append_assoc] at heq ⊢; exact heq) hN
        have z1 := num_len (n := 1) (by decide) (by decide)
        rw [htx] at e0 hE hS3
        go_wp2_with fail
        have hs3 : (wr.alloc (.cells #[.bool true, .string x.s, .int .i64 x.n] 132)).heap.size = wr.heap.size + 1 := by simp
        generalize wr.alloc (.cells #[.bool true, .string x.s, .int .i64 x.n] 132) = w3 at *
        rw [← hs3]
        generalize wr.heap.size = E at *
        refine (num1S hS3 1 (by decide) (by omega)).mono ?_
        rintro e w4 ⟨rfl, v4, hS4, hk4⟩
        have hE4 := hk4 _ _ _ _ hE (by decide) (by decide)
        have p1 : w4.cell? ⟨E, 1, none⟩ = some (.string x.s) := cell_of_block hE4 rfl
        go_wp2_with fail
        refine (textS hS4 x.s (by rw [List.length_append]; omega) hxs).mono ?_
        rintro e w5 ⟨rfl, v5, hS5, hk5⟩
        go_wp2
        go_roundw
        case rel => exact ⟨k + 1, _, _, by simp, by omega, hS5, by (simp only [List.append_assoc] at heq ⊢; exact heq)⟩
        case measure => simp [intOf]; omega
    · obtain rfl : k = m.consts.length := by omega
      have hkd : decide ((m.consts.length : Int) < (m.consts.length : Int)) = false := by simp
      rw [drop_all, List.nil_append] at heq
      have d2 := (hS.low.cell (p := ⟨mb, mo + 2, none⟩) hmlt).trans c2
      clear hrow1 a1
      go_wp2_with fail
      refine (num1S hS (m.classes.length : Int) (by omega) (by omega)).mono ?_
      rintro e w2 ⟨rfl, v2, hS2, hk2⟩
      have d2 := (hS2.low.cell (p := ⟨mb, mo + 2, none⟩) hmlt).trans c2
      rw [← hT1, ← List.append_assoc] at heq
      generalize l ++ num (m.classes.length : Int) = L3 at *
      obtain ⟨T2, hT2⟩ : ∃ T, num (m.funcs.length : Int) ++ m.funcs.flatMap fc = T := ⟨_, rfl⟩
      rw [hT2] at heq
      have hrow2 := fun (k : Nat) (x : Cl) (hx : m.classes[k]? = some x) => hi.classes.row k x.vals (by rw [List.getElem?_map, hx]; rfl)
      clear hS hT1 hk2
      go_wp2_with fail
      go_loopw [73] (fun s73 wr => ∃ (k : Nat) (l : List UInt8) (v' : Value), s73 = .int .i64 (k : Int) ∧ k ≤ m.classes.length ∧ SW w.heap.size w wr pb v' l ∧ l ++ ((m.classes.drop k).flatMap cl ++ T2) = BD) (fun s73 _ => m.classes.length - (intOf s73).toNat)
      case atStart => exact ⟨0, L3, v2, rfl, Nat.zero_le _, hS2, heq⟩
      case round =>
        clear hS2 heq d2
        obtain ⟨k, l, v', rfl, hk, hS, heq⟩ := hrel
        have hll := len_of heq hN
        by_cases hkn : k < m.classes.length
        · obtain ⟨x, hx⟩ : ∃ x, m.classes[k]? = some x := ⟨_, List.getElem?_eq_getElem hkn⟩
          have hxm := List.mem_of_getElem? hx
          have hkd : decide ((k : Int) < (m.classes.length : Int)) = true := by simp; omega
          obtain rfl := a2 (by omega)
          have hxr : Row wr m.classesS.b (m.classesS.o + k * 5) x.vals := (hrow2 k x hx).below hS.low (Nat.le_refl _)
          have hcl := hi.cl x hxm
          have hco := hok.cl x hxm
          have hnx : Aside (x.names.length = x.methods.length) := hnA.out x hxm
          have lF := hcl.fields.len
          have lN := hcl.names.len
          have lM := hcl.methods.len
          have aF := hcl.fields.addr
          have aN := hcl.names.addr
          have aM := hcl.methods.addr
          rw [List.length_map] at lF lN lM
          rw [lF] at aF
          rw [lN] at aN
          rw [lM] at aM
          have rF := fun (k : Nat) (s : ByteArray) (h : x.fields[k]? = some s) => hcl.fields.row k [.string s] (by rw [List.getElem?_map, h]; rfl)
          have rN := fun (k : Nat) (s : ByteArray) (h : x.names[k]? = some s) => hcl.names.row k [.string s] (by rw [List.getElem?_map, h]; rfl)
          have rM := fun (k : Nat) (n : Int) (h : x.methods[k]? = some n) => hcl.methods.row k [.int .i64 n] (by rw [List.getElem?_map, h]; rfl)
          simp only [Nat.mul_one] at rF rN rM
          have kF := hco.lens.1
          have kN := hco.lens.2.1
          have kM := hco.lens.2.2
          have nF := num_len (n := (x.fields.length : Int)) (by omega) (by omega)
          have nN := num_len (n := (x.names.length : Int)) (by omega) (by omega)
          have hab := hco.above
          unfold i64 at hab
          have nA := num_len hab.1 hab.2
          have e0 : wr.cell? ⟨m.classesS.b, m.classesS.o + k * 5, none⟩ = some (.string x.name) := hxr 0 _ rfl
          have e1 : wr.cell? ⟨m.classesS.b, m.classesS.o + k * 5 + 1, none⟩ = some (.int .i64 x.above) := hxr 1 _ rfl
          have e2 : wr.cell? ⟨m.classesS.b, m.classesS.o + k * 5 + 2, none⟩ = some (.slice x.fieldsS.oa x.fieldsS.n x.fieldsS.c) := hxr 2 _ rfl
          have e3 : wr.cell? ⟨m.classesS.b, m.classesS.o + k * 5 + 3, none⟩ = some (.slice x.namesS.oa x.namesS.n x.namesS.c) := hxr 3 _ rfl
          have e4 : wr.cell? ⟨m.classesS.b, m.classesS.o + k * 5 + 4, none⟩ = some (.slice x.methodsS.oa x.methodsS.n x.methodsS.c) := hxr 4 _ rfl
          rw [lF] at e2
          rw [lN] at e3
          rw [lM] at e4
          obtain ⟨oF, hoF⟩ : ∃ oa, x.fieldsS.oa = oa := ⟨_, rfl⟩
          obtain ⟨oN, hoN⟩ : ∃ oa, x.namesS.oa = oa := ⟨_, rfl⟩
          obtain ⟨oM, hoM⟩ : ∃ oa, x.methodsS.oa = oa := ⟨_, rfl⟩
          rw [hoF] at e2 aF
          rw [hoN] at e3 aN
          rw [hoM] at e4 aM
          clear hoF hoN hoM hcl hco lF lN lM hxr
          rw [drop_flat cl hx, List.append_assoc] at heq
          obtain ⟨T3, hT3⟩ : ∃ T, (m.classes.drop (k + 1)).flatMap cl ++ T2 = T := ⟨_, rfl⟩
          rw [hT3] at heq
          have heq2 : l ++ (txt x.name ++ (num x.above ++ (num x.fields.length ++ (x.fields.flatMap txt ++ (num x.names.length ++ ((x.names.zip x.methods).flatMap nm ++ T3)))))) = BD := by
            unfold cl at heq
            simp only [List.append_assoc] at heq
            exact heq
          clear heq
          have hxs : x.name.size ≤ 35184372088832 := text_le heq2 hN
          have hE := heap_alloc_new wr (.cells #[.string x.name, .int .i64 x.above, .slice oF x.fields.length x.fieldsS.c, .slice oN x.names.length x.namesS.c, .slice oM x.methods.length x.methodsS.c] 125)
          have hS3 := hS.alloc (.cells #[.string x.name, .int .i64 x.above, .slice oF x.fields.length x.fieldsS.c, .slice oN x.names.length x.namesS.c, .slice oM x.methods.length x.methodsS.c] 125)
          clear hrow2 a2
          go_wp2_with fail
          generalize wr.alloc (.cells #[.string x.name, .int .i64 x.above, .slice oF x.fields.length x.fieldsS.c, .slice oN x.names.length x.namesS.c, .slice oM x.methods.length x.methodsS.c] 125) = w3 at *
          generalize wr.heap.size = E at *
          refine (textS hS3 x.name (by omega) hxs).mono ?_
          rintro e w4 ⟨rfl, v4, hS4, hk4⟩
          have hE4 := hk4 _ _ _ _ hE (by decide) (by decide)
          have p1 : w4.cell? ⟨E, 1, none⟩ = some (.int .i64 x.above) := cell_of_block hE4 rfl
          have p2 : w4.cell? ⟨E, 2, none⟩ = some (.slice oF x.fields.length x.fieldsS.c) := cell_of_block hE4 rfl
          rw [← List.append_assoc] at heq2
          have hl4 := len_of heq2 hN
          generalize l ++ txt x.name = l4 at *
          go_wp2_with fail
          refine (num2S hS4 x.above (x.fields.length : Int) hab (by omega) (by omega)).mono ?_
          rintro e w6 ⟨rfl, v6, hS6, hk6⟩
          have hE6 := hk6 _ _ _ _ hE4 (by decide) (by decide)
          have q2 : w6.cell? ⟨E, 2, none⟩ = some (.slice oF x.fields.length x.fieldsS.c) := cell_of_block hE6 rfl
          obtain ⟨T4, hT4⟩ : ∃ T, num (x.names.length : Int) ++ ((x.names.zip x.methods).flatMap nm ++ T3) = T := ⟨_, rfl⟩
          have heq6 : (l4 ++ (num x.above ++ num (x.fields.length : Int))) ++ (x.fields.flatMap txt ++ T4) = BD := by
            rw [← hT4]
            simp only [List.append_assoc]
            exact heq2
          clear heq2 hE hE4 hS4 hS3 hS hll hl4 p1 p2 hk4 hk6
          generalize l4 ++ (num x.above ++ num (x.fields.length : Int)) = l6 at *
          go_wp2_with fail
          go_loopw [92] (fun s92 wr => ∃ (j : Nat) (l : List UInt8) (v' : Value), s92 = .int .i64 (j : Int) ∧ j ≤ x.fields.length ∧ SW w.heap.size w wr pb v' l ∧ wr.heap[E]? = some (.cells #[.string x.name, .int .i64 x.above, .slice oF x.fields.length x.fieldsS.c, .slice oN x.names.length x.namesS.c, .slice oM x.methods.length x.methodsS.c] 125 (0, 0)) ∧ l ++ ((x.fields.drop j).flatMap txt ++ T4) = BD) (fun s92 _ => x.fields.length - (intOf s92).toNat)
          case atStart => exact ⟨0, l6, v6, rfl, Nat.zero_le _, hS6, hE6, heq6⟩
          case round =>
            clear hS6 heq6 hE6 q2
            obtain ⟨j, l, v', rfl, hj, hS, hE, heq⟩ := hrel
            have hll := len_of heq hN
            by_cases hjn : j < x.fields.length
            · obtain ⟨s, hs⟩ : ∃ s, x.fields[j]? = some s := ⟨_, List.getElem?_eq_getElem hjn⟩
              have hjd : decide ((j : Int) < (x.fields.length : Int)) = true := by simp; omega
              obtain rfl := aF (by omega)
              have f0 : wr.cell? ⟨x.fieldsS.b, x.fieldsS.o + j, none⟩ = some (.string s) := (rF j s hs).below hS.low (Nat.le_refl _) 0 _ rfl
              rw [drop_flat txt hs, List.append_assoc] at heq
              have hxs : s.size ≤ 35184372088832 := text_le heq hN
              clear rF aF rN rM aN aM
              go_wp2_with fail
              refine (textS hS s (by omega) hxs).mono ?_
              rintro e w7 ⟨rfl, v7, hS7, hk7⟩
              have hE7 := hk7 _ _ _ _ hE (by decide) (by decide)
              go_wp2
              go_roundw
              case rel => exact ⟨j + 1, _, _, by simp, by omega, hS7, hE7, by (simp only [List.append_assoc] at heq ⊢; exact heq)⟩
              case measure => simp [intOf]; omega
            · obtain rfl : j = x.fields.length := by omega
              have hjd : decide ((x.fields.length : Int) < (x.fields.length : Int)) = false := by simp
              rw [drop_all, List.nil_append] at heq
              have q3 : wr.cell? ⟨E, 3, none⟩ = some (.slice oN x.names.length x.namesS.c) := cell_of_block hE rfl
              clear rF aF
              go_wp2_with fail
              refine (num1S hS (x.names.length : Int) (by omega) (by omega)).mono ?_
              rintro e w8 ⟨rfl, v8, hS8, hk8⟩
              have hE8 := hk8 _ _ _ _ hE (by decide) (by decide)
              have q3 : w8.cell? ⟨E, 3, none⟩ = some (.slice oN x.names.length x.namesS.c) := cell_of_block hE8 rfl
              rw [← hT4, ← List.append_assoc] at heq
              generalize l ++ num (x.names.length : Int) = l8 at *
              clear hS hE hT4 hll hk8
              go_wp2_with fail
              go_loopw [109] (fun s109 wr => ∃ (j : Nat) (l : List UInt8) (v' : Value), s109 = .int .i64 (j : Int) ∧ j ≤ x.names.length ∧ SW w.heap.size w wr pb v' l ∧ wr.heap[E]? = some (.cells #[.string x.name, .int .i64 x.above, .slice oF x.fields.length x.fieldsS.c, .slice oN x.names.length x.namesS.c, .slice oM x.methods.length x.methodsS.c] 125 (0, 0)) ∧ l ++ (((x.names.zip x.methods).drop j).flatMap nm ++ T3) = BD) (fun s109 _ => x.names.length - (intOf s109).toNat)
              case atStart => exact ⟨0, l8, v8, rfl, Nat.zero_le _, hS8, hE8, heq⟩
              case round =>
                clear hS8 heq hE8 q3
                obtain ⟨j, l, v', rfl, hj, hS, hE, heq⟩ := hrel
                have hll := len_of heq hN
                have hzl : (x.names.zip x.methods).length = x.names.length := by rw [List.length_zip, hnx.out, Nat.min_self]
                by_cases hjn : j < x.names.length
                · have hjm : j < x.methods.length := by rw [← hnx.out]; exact hjn
                  obtain ⟨s, hs⟩ : ∃ s, x.names[j]? = some s := ⟨_, List.getElem?_eq_getElem hjn⟩
                  obtain ⟨n, hn⟩ : ∃ n, x.methods[j]? = some n := ⟨_, List.getElem?_eq_getElem hjm⟩
                  have hz : (x.names.zip x.methods)[j]? = some (s, n) := by
                    rw [List.getElem?_zip_eq_some]
                    exact ⟨hs, hn⟩
                  have hjd : decide ((j : Int) < (x.names.length : Int)) = true := by simp; omega
                  have i1 : (0 : Int) ≤ (j : Int) := by omega
                  have i2 : (j : Int) < (x.methods.length : Int) := by omega
                  obtain rfl := aN (by omega)
                  obtain rfl := aM (by omega)
                  have hno := (hok.cl x hxm).methods n (List.mem_of_getElem? hn)
                  unfold i64 at hno
                  have f0 : wr.cell? ⟨x.namesS.b, x.namesS.o + j, none⟩ = some (.string s) := (rN j s hs).below hS.low (Nat.le_refl _) 0 _ rfl
                  rw [drop_flat nm hz] at heq
                  have heq' : l ++ (txt s ++ (num n ++ (((x.names.zip x.methods).drop (j + 1)).flatMap nm ++ T3))) = BD := by
                    unfold nm at heq
                    simp only [List.append_assoc] at heq
                    exact heq
                  have hxs : s.size ≤ 35184372088832 := text_le heq' hN
                  go_wp2_with fail
                  refine (textS hS s (by omega) hxs).mono ?_
                  rintro e w9 ⟨rfl, v9, hS9, hk9⟩
                  have hE9 := hk9 _ _ _ _ hE (by decide) (by decide)
                  have f1 : w9.cell? ⟨x.methodsS.b, x.methodsS.o + j, none⟩ = some (.int .i64 n) := (rM j n hn).below hS9.low (Nat.le_refl _) 0 _ rfl
                  have p4 : w9.cell? ⟨E, 4, none⟩ = some (.slice (some ⟨x.methodsS.b, x.methodsS.o, none⟩) x.methods.length x.methodsS.c) := cell_of_block hE9 rfl
                  have hl4 : (l ++ txt s).length ≤ 35184372088832 := len_of (l := l ++ txt s) (body := BD) (by rw [List.append_assoc]; exact heq') hN
                  clear rN rM aN aM heq f0
                  go_wp2_with fail
                  refine (num1S hS9 n hno (by omega)).mono ?_
                  rintro e w10 ⟨rfl, v10, hS10, hk10⟩
                  have hE10 := hk10 _ _ _ _ hE9 (by decide) (by decide)
                  go_wp2
                  go_roundw
                  case rel => exact ⟨j + 1, _, _, by simp, by omega, hS10, hE10, by (simp only [List.append_assoc] at heq' ⊢; exact heq')⟩
                  case measure => simp [intOf]; omega
                · obtain rfl : j = x.names.length := by omega
                  have hjd : decide ((x.names.length : Int) < (x.names.length : Int)) = false := by simp
                  rw [show (x.names.zip x.methods).drop x.names.length = [] from List.drop_eq_nil_of_le (Nat.le_of_eq hzl), List.flatMap_nil, List.nil_append, ← hT3] at heq
                  clear rN rM aN aM
                  go_wp2
                  go_roundw
                  case rel => exact ⟨k + 1, _, _, by simp, by omega, hS, heq⟩
                  case measure => simp [intOf]; omega
        · obtain rfl : k = m.classes.length := by omega
          have hkd : decide ((m.classes.length : Int) < (m.classes.length : Int)) = false := by simp
          rw [drop_all, List.nil_append] at heq
          have d0 := (hS.low.cell (p := ⟨mb, mo, none⟩) hmlt).trans c0
          clear hrow2 a2
          go_wp2_with fail
          refine (num1S hS (m.funcs.length : Int) (by omega) (by omega)).mono ?_
          rintro e w2 ⟨rfl, v2, hS2, hk2⟩
          have d0 := (hS2.low.cell (p := ⟨mb, mo, none⟩) hmlt).trans c0
          rw [← hT2, ← List.append_assoc] at heq
          generalize l ++ num (m.funcs.length : Int) = L4 at *
          have hrow0 := fun (k : Nat) (x : Fc) (hx : m.funcs[k]? = some x) => hi.funcs.row k x.vals (by rw [List.getElem?_map, hx]; rfl)
          clear hS hT2 hk2
          go_wp2_with fail
          go_loopw [140] (fun s140 wr => ∃ (k : Nat) (l : List UInt8) (v' : Value), s140 = .int .i64 (k : Int) ∧ k ≤ m.funcs.length ∧ SW w.heap.size w wr pb v' l ∧ l ++ (m.funcs.drop k).flatMap fc = BD) (fun s140 _ => m.funcs.length - (intOf s140).toNat)
          case atStart => exact ⟨0, L4, v2, rfl, Nat.zero_le _, hS2, heq⟩
          case round =>
            clear hS2 heq d0
            obtain ⟨k, l, v', rfl, hk, hS, heq⟩ := hrel
            have hll := len_of heq hN
            by_cases hkn : k < m.funcs.length
            · obtain ⟨x, hx⟩ : ∃ x, m.funcs[k]? = some x := ⟨_, List.getElem?_eq_getElem hkn⟩
              have hxm := List.mem_of_getElem? hx
              have hkd : decide ((k : Int) < (m.funcs.length : Int)) = true := by simp; omega
              obtain rfl := a0 (by omega)
              have hxr : Row wr m.funcsS.b (m.funcsS.o + k * 6) x.vals := (hrow0 k x hx).below hS.low (Nat.le_refl _)
              have hfi := hi.fn x hxm
              have hfo := hok.fn x hxm
              have lC := hfi.code.len
              have lH := hfi.hs.len
              have lV := hfi.vars.len
              have aC := hfi.code.addr
              have aH := hfi.hs.addr
              have aV := hfi.vars.addr
              rw [List.length_map] at lC lH lV
              rw [lC] at aC
              rw [lH] at aH
              rw [lV] at aV
              have rC := fun (k : Nat) (y : I3) (h : x.code[k]? = some y) => hfi.code.row k y.vals (by rw [List.getElem?_map, h]; rfl)
              have rH := fun (k : Nat) (y : H3) (h : x.hs[k]? = some y) => hfi.hs.row k y.vals (by rw [List.getElem?_map, h]; rfl)
              have rV := fun (k : Nat) (y : Vr) (h : x.vars[k]? = some y) => hfi.vars.row k y.vals (by rw [List.getElem?_map, h]; rfl)
              have kC := hfo.lens.1
              have kH := hfo.lens.2.1
              have kV := hfo.lens.2.2
              have oC' := hfo.code
              have oH' := hfo.hs
              have oV' := hfo.vars
              have nC := num_len (n := (x.code.length : Int)) (by omega) (by omega)
              have nH := num_len (n := (x.hs.length : Int)) (by omega) (by omega)
              have nV := num_len (n := (x.vars.length : Int)) (by omega) (by omega)
              have hpa := hfo.params
              have hsl := hfo.slots
              unfold i64 at hpa hsl
              have nP := num_len hpa.1 hpa.2
              have nS := num_len hsl.1 hsl.2
              have e0 : wr.cell? ⟨m.funcsS.b, m.funcsS.o + k * 6, none⟩ = some (.string x.name) := hxr 0 _ rfl
              have e1 : wr.cell? ⟨m.funcsS.b, m.funcsS.o + k * 6 + 1, none⟩ = some (.int .i64 x.params) := hxr 1 _ rfl
              have e2 : wr.cell? ⟨m.funcsS.b, m.funcsS.o + k * 6 + 2, none⟩ = some (.int .i64 x.slots) := hxr 2 _ rfl
              have e3 : wr.cell? ⟨m.funcsS.b, m.funcsS.o + k * 6 + 3, none⟩ = some (.slice x.codeS.oa x.codeS.n x.codeS.c) := hxr 3 _ rfl
              have e4 : wr.cell? ⟨m.funcsS.b, m.funcsS.o + k * 6 + 4, none⟩ = some (.slice x.hsS.oa x.hsS.n x.hsS.c) := hxr 4 _ rfl
              have e5 : wr.cell? ⟨m.funcsS.b, m.funcsS.o + k * 6 + 5, none⟩ = some (.slice x.varsS.oa x.varsS.n x.varsS.c) := hxr 5 _ rfl
              rw [lC] at e3
              rw [lH] at e4
              rw [lV] at e5
              obtain ⟨oC, hoC⟩ : ∃ oa, x.codeS.oa = oa := ⟨_, rfl⟩
              obtain ⟨oH, hoH⟩ : ∃ oa, x.hsS.oa = oa := ⟨_, rfl⟩
              obtain ⟨oV, hoV⟩ : ∃ oa, x.varsS.oa = oa := ⟨_, rfl⟩
              rw [hoC] at e3 aC
              rw [hoH] at e4 aH
              rw [hoV] at e5 aV
              clear hoC hoH hoV hfi hfo lC lH lV hxr
              rw [drop_flat fc hx] at heq
              obtain ⟨T3, hT3⟩ : ∃ T, (m.funcs.drop (k + 1)).flatMap fc = T := ⟨_, rfl⟩
              rw [hT3] at heq
              have heq2 : l ++ (txt x.name ++ (num x.params ++ (num x.slots ++ (num x.code.length ++ (x.code.flatMap i3 ++ (num x.hs.length ++ (x.hs.flatMap h3 ++ (num x.vars.length ++ (x.vars.flatMap vr ++ T3))))))))) = BD := by
                unfold fc at heq
                simp only [List.append_assoc] at heq
                exact heq
              clear heq
              have hxs : x.name.size ≤ 35184372088832 := text_le heq2 hN
              have hE := heap_alloc_new wr (.cells #[.string x.name, .int .i64 x.params, .int .i64 x.slots, .slice oC x.code.length x.codeS.c, .slice oH x.hs.length x.hsS.c, .slice oV x.vars.length x.varsS.c] 130)
              have hS3 := hS.alloc (.cells #[.string x.name, .int .i64 x.params, .int .i64 x.slots, .slice oC x.code.length x.codeS.c, .slice oH x.hs.length x.hsS.c, .slice oV x.vars.length x.varsS.c] 130)
              clear hrow0 a0
              go_wp2_with fail
              generalize wr.alloc (.cells #[.string x.name, .int .i64 x.params, .int .i64 x.slots, .slice oC x.code.length x.codeS.c, .slice oH x.hs.length x.hsS.c, .slice oV x.vars.length x.varsS.c] 130) = w3 at *
              generalize wr.heap.size = E at *
              refine (textS hS3 x.name (by omega) hxs).mono ?_
              rintro e w4 ⟨rfl, v4, hS4, hk4⟩
              have hE4 := hk4 _ _ _ _ hE (by decide) (by decide)
              have p1 : w4.cell? ⟨E, 1, none⟩ = some (.int .i64 x.params) := cell_of_block hE4 rfl
              have p2 : w4.cell? ⟨E, 2, none⟩ = some (.int .i64 x.slots) := cell_of_block hE4 rfl
              have p3 : w4.cell? ⟨E, 3, none⟩ = some (.slice oC x.code.length x.codeS.c) := cell_of_block hE4 rfl
              rw [← List.append_assoc] at heq2
              have hl4 := len_of heq2 hN
              generalize l ++ txt x.name = l4 at *
              go_wp2_with fail
              refine (num3S hS4 x.params x.slots (x.code.length : Int) hpa hsl (by omega) (by omega)).mono ?_
              rintro e w7 ⟨rfl, v7, hS7, hk7⟩
              have hE7 := hk7 _ _ _ _ hE4 (by decide) (by decide)
              have q3 : w7.cell? ⟨E, 3, none⟩ = some (.slice oC x.code.length x.codeS.c) := cell_of_block hE7 rfl
              obtain ⟨U1, hU1⟩ : ∃ T, num (x.hs.length : Int) ++ (x.hs.flatMap h3 ++ (num (x.vars.length : Int) ++ (x.vars.flatMap vr ++ T3))) = T := ⟨_, rfl⟩
              have heq7 : (l4 ++ (num x.params ++ (num x.slots ++ num (x.code.length : Int)))) ++ (x.code.flatMap i3 ++ U1) = BD := by
                rw [← hU1]
                simp only [List.append_assoc]
                exact heq2
              clear heq2 hE hE4 hS4 hS3 hS hll hl4 p1 p2 p3 hk4 hk7
              generalize l4 ++ (num x.params ++ (num x.slots ++ num (x.code.length : Int))) = l7 at *
              go_wp2_with fail
              go_loopw [161] (fun s161 wr => ∃ (j : Nat) (l : List UInt8) (v' : Value), s161 = .int .i64 (j : Int) ∧ j ≤ x.code.length ∧ SW w.heap.size w wr pb v' l ∧ wr.heap[E]? = some (.cells #[.string x.name, .int .i64 x.params, .int .i64 x.slots, .slice oC x.code.length x.codeS.c, .slice oH x.hs.length x.hsS.c, .slice oV x.vars.length x.varsS.c] 130 (0, 0)) ∧ l ++ ((x.code.drop j).flatMap i3 ++ U1) = BD) (fun s161 _ => x.code.length - (intOf s161).toNat)
              case atStart => exact ⟨0, l7, v7, rfl, Nat.zero_le _, hS7, hE7, heq7⟩
              case round =>
                clear hS7 hE7 heq7 q3
                obtain ⟨j, l, v', rfl, hj, hS, hE, heq⟩ := hrel
                have hll := len_of heq hN
                by_cases hjn : j < x.code.length
                · obtain ⟨y, hy⟩ : ∃ y, x.code[j]? = some y := ⟨_, List.getElem?_eq_getElem hjn⟩
                  have hjd : decide ((j : Int) < (x.code.length : Int)) = true := by simp; omega
                  obtain rfl := aC (by omega)
                  have hyo := oC' y (List.mem_of_getElem? hy)
                  unfold I3Ok i64 at hyo
                  have hyr : Row wr x.codeS.b (x.codeS.o + j * 3) y.vals := (rC j y hy).below hS.low (Nat.le_refl _)
                  have f0 : wr.cell? ⟨x.codeS.b, x.codeS.o + j * 3, none⟩ = some (.int .i64 y.op) := hyr 0 _ rfl
                  have f1 : wr.cell? ⟨x.codeS.b, x.codeS.o + j * 3 + 1, none⟩ = some (.int .i64 y.a) := hyr 1 _ rfl
                  have f2 : wr.cell? ⟨x.codeS.b, x.codeS.o + j * 3 + 2, none⟩ = some (.int .i64 y.b) := hyr 2 _ rfl
                  rw [drop_flat i3 hy, List.append_assoc] at heq
                  rw [show i3 y = num y.op ++ num y.a ++ num y.b from rfl] at heq
                  have hS3 := hS.alloc (.cells #[.int .i64 y.op, .int .i64 y.a, .int .i64 y.b] 135)
                  have hE3 := (Below.heap_alloc wr (.cells #[.int .i64 y.op, .int .i64 y.a, .int .i64 y.b] 135) E (lt_of_block hE)).trans hE
                  clear rC rH rV aC aH aV hyr
                  go_wp2_with fail
                  have hs3 : (wr.alloc (.cells #[.int .i64 y.op, .int .i64 y.a, .int .i64 y.b] 135)).heap.size = wr.heap.size + 1 := by simp
                  generalize wr.alloc (.cells #[.int .i64 y.op, .int .i64 y.a, .int .i64 y.b] 135) = w3 at *
                  rw [← hs3]
                  refine (num3S hS3 y.op y.a y.b hyo.1 hyo.2.1 hyo.2.2 (by omega)).mono ?_
                  rintro e w4 ⟨rfl, v4, hS4, hk4⟩
                  have hE4 := hk4 _ _ _ _ hE3 (by decide) (by decide)
                  go_wp2
                  go_roundw
                  case rel => exact ⟨j + 1, _, _, by simp, by omega, hS4, hE4, by (simp only [List.append_assoc] at heq ⊢; exact heq)⟩
                  case measure => simp [intOf]; omega
                · obtain rfl : j = x.code.length := by omega
                  have hjd : decide ((x.code.length : Int) < (x.code.length : Int)) = false := by simp
                  rw [drop_all, List.nil_append] at heq
                  have q4 : wr.cell? ⟨E, 4, none⟩ = some (.slice oH x.hs.length x.hsS.c) := cell_of_block hE rfl
                  clear rC aC
                  go_wp2_with fail
                  refine (num1S hS (x.hs.length : Int) (by omega) (by omega)).mono ?_
                  rintro e w8 ⟨rfl, v8, hS8, hk8⟩
                  have hE8 := hk8 _ _ _ _ hE (by decide) (by decide)
                  have q4 : w8.cell? ⟨E, 4, none⟩ = some (.slice oH x.hs.length x.hsS.c) := cell_of_block hE8 rfl
                  rw [← hU1, ← List.append_assoc] at heq
                  generalize l ++ num (x.hs.length : Int) = l8 at *
                  obtain ⟨U2, hU2⟩ : ∃ T, num (x.vars.length : Int) ++ (x.vars.flatMap vr ++ T3) = T := ⟨_, rfl⟩
                  rw [hU2] at heq
                  clear hS hE hU1 hll hk8
                  go_wp2_with fail
                  go_loopw [184] (fun s184 wr => ∃ (j : Nat) (l : List UInt8) (v' : Value), s184 = .int .i64 (j : Int) ∧ j ≤ x.hs.length ∧ SW w.heap.size w wr pb v' l ∧ wr.heap[E]? = some (.cells #[.string x.name, .int .i64 x.params, .int .i64 x.slots, .slice oC x.code.length x.codeS.c, .slice oH x.hs.length x.hsS.c, .slice oV x.vars.length x.varsS.c] 130 (0, 0)) ∧ l ++ ((x.hs.drop j).flatMap h3 ++ U2) = BD) (fun s184 _ => x.hs.length - (intOf s184).toNat)
                  case atStart => exact ⟨0, l8, v8, rfl, Nat.zero_le _, hS8, hE8, heq⟩
                  case round =>
                    clear hS8 hE8 heq q4
                    obtain ⟨j, l, v', rfl, hj, hS, hE, heq⟩ := hrel
                    have hll := len_of heq hN
                    by_cases hjn : j < x.hs.length
                    · obtain ⟨y, hy⟩ : ∃ y, x.hs[j]? = some y := ⟨_, List.getElem?_eq_getElem hjn⟩
                      have hjd : decide ((j : Int) < (x.hs.length : Int)) = true := by simp; omega
                      obtain rfl := aH (by omega)
                      have hyo := oH' y (List.mem_of_getElem? hy)
                      unfold H3Ok i64 at hyo
                      have hyr : Row wr x.hsS.b (x.hsS.o + j * 3) y.vals := (rH j y hy).below hS.low (Nat.le_refl _)
                      have f0 : wr.cell? ⟨x.hsS.b, x.hsS.o + j * 3, none⟩ = some (.int .i64 y.f) := hyr 0 _ rfl
                      have f1 : wr.cell? ⟨x.hsS.b, x.hsS.o + j * 3 + 1, none⟩ = some (.int .i64 y.t) := hyr 1 _ rfl
                      have f2 : wr.cell? ⟨x.hsS.b, x.hsS.o + j * 3 + 2, none⟩ = some (.int .i64 y.g) := hyr 2 _ rfl
                      rw [drop_flat h3 hy, List.append_assoc] at heq
                      rw [show h3 y = num y.f ++ num y.t ++ num y.g from rfl] at heq
                      have hS3 := hS.alloc (.cells #[.int .i64 y.f, .int .i64 y.t, .int .i64 y.g] 138)
                      have hE3 := (Below.heap_alloc wr (.cells #[.int .i64 y.f, .int .i64 y.t, .int .i64 y.g] 138) E (lt_of_block hE)).trans hE
                      clear rH rV aH aV hyr
                      go_wp2_with fail
                      have hs3 : (wr.alloc (.cells #[.int .i64 y.f, .int .i64 y.t, .int .i64 y.g] 138)).heap.size = wr.heap.size + 1 := by simp
                      generalize wr.alloc (.cells #[.int .i64 y.f, .int .i64 y.t, .int .i64 y.g] 138) = w3 at *
                      rw [← hs3]
                      refine (num3S hS3 y.f y.t y.g hyo.1 hyo.2.1 hyo.2.2 (by omega)).mono ?_
                      rintro e w4 ⟨rfl, v4, hS4, hk4⟩
                      have hE4 := hk4 _ _ _ _ hE3 (by decide) (by decide)
                      go_wp2
                      go_roundw
                      case rel => exact ⟨j + 1, _, _, by simp, by omega, hS4, hE4, by (simp only [List.append_assoc] at heq ⊢; exact heq)⟩
                      case measure => simp [intOf]; omega
                    · obtain rfl : j = x.hs.length := by omega
                      have hjd : decide ((x.hs.length : Int) < (x.hs.length : Int)) = false := by simp
                      rw [drop_all, List.nil_append] at heq
                      have q5 : wr.cell? ⟨E, 5, none⟩ = some (.slice oV x.vars.length x.varsS.c) := cell_of_block hE rfl
                      clear rH aH
                      go_wp2_with fail
                      refine (num1S hS (x.vars.length : Int) (by omega) (by omega)).mono ?_
                      rintro e w8 ⟨rfl, v8, hS8, hk8⟩
                      have hE8 := hk8 _ _ _ _ hE (by decide) (by decide)
                      have q5 : w8.cell? ⟨E, 5, none⟩ = some (.slice oV x.vars.length x.varsS.c) := cell_of_block hE8 rfl
                      rw [← hU2, ← List.append_assoc] at heq
                      generalize l ++ num (x.vars.length : Int) = l8 at *
                      clear hS hE hU2 hll hk8
                      go_wp2_with fail
                      go_loopw [207] (fun s207 wr => ∃ (j : Nat) (l : List UInt8) (v' : Value), s207 = .int .i64 (j : Int) ∧ j ≤ x.vars.length ∧ SW w.heap.size w wr pb v' l ∧ wr.heap[E]? = some (.cells #[.string x.name, .int .i64 x.params, .int .i64 x.slots, .slice oC x.code.length x.codeS.c, .slice oH x.hs.length x.hsS.c, .slice oV x.vars.length x.varsS.c] 130 (0, 0)) ∧ l ++ ((x.vars.drop j).flatMap vr ++ T3) = BD) (fun s207 _ => x.vars.length - (intOf s207).toNat)
                      case atStart => exact ⟨0, l8, v8, rfl, Nat.zero_le _, hS8, hE8, heq⟩
                      case round =>
                        clear hS8 heq hE8 q5
                        obtain ⟨j, l, v', rfl, hj, hS, hE, heq⟩ := hrel
                        have hll := len_of heq hN
                        by_cases hjn : j < x.vars.length
                        · obtain ⟨y, hy⟩ : ∃ y, x.vars[j]? = some y := ⟨_, List.getElem?_eq_getElem hjn⟩
                          have hjd : decide ((j : Int) < (x.vars.length : Int)) = true := by simp; omega
                          obtain rfl := aV (by omega)
                          have hyo := oV' y (List.mem_of_getElem? hy)
                          unfold VrOk i64 at hyo
                          obtain ⟨_, y0, y1, y2⟩ := hyo
                          have hyr : Row wr x.varsS.b (x.varsS.o + j * 5) y.vals := (rV j y hy).below hS.low (Nat.le_refl _)
                          have f0 : wr.cell? ⟨x.varsS.b, x.varsS.o + j * 5, none⟩ = some (.string y.name) := hyr 0 _ rfl
                          have f1 : wr.cell? ⟨x.varsS.b, x.varsS.o + j * 5 + 1, none⟩ = some (.int .i64 y.slot) := hyr 1 _ rfl
                          have f2 : wr.cell? ⟨x.varsS.b, x.varsS.o + j * 5 + 2, none⟩ = some (.int .i64 y.f) := hyr 2 _ rfl
                          have f3 : wr.cell? ⟨x.varsS.b, x.varsS.o + j * 5 + 3, none⟩ = some (.int .i64 y.t) := hyr 3 _ rfl
                          have f4 : wr.cell? ⟨x.varsS.b, x.varsS.o + j * 5 + 4, none⟩ = some (.bool y.boxed) := hyr 4 _ rfl
                          obtain ⟨bx, hbx⟩ : ∃ b : Int, (if y.boxed then 1 else 0) = b := ⟨_, rfl⟩
                          rw [drop_flat vr hy, List.append_assoc, show vr y = txt y.name ++ num y.slot ++ num y.f ++ num y.t ++ num (if y.boxed then 1 else 0) from rfl, hbx] at heq
                          have heq2 : l ++ (txt y.name ++ (num y.slot ++ (num y.f ++ (num y.t ++ (num bx ++ ((x.vars.drop (j + 1)).flatMap vr ++ T3)))))) = BD := by
                            simp only [List.append_assoc] at heq
                            exact heq
                          clear heq
                          have hxs : y.name.size ≤ 35184372088832 := text_le heq2 hN
                          have hl4 : (l ++ txt y.name).length ≤ 35184372088832 := len_of (l := l ++ txt y.name) (body := BD) (by rw [List.append_assoc]; exact heq2) hN
                          have hF := heap_alloc_new wr (.cells #[.string y.name, .int .i64 y.slot, .int .i64 y.f, .int .i64 y.t, .bool y.boxed] 141)
                          have hS3 := hS.alloc (.cells #[.string y.name, .int .i64 y.slot, .int .i64 y.f, .int .i64 y.t, .bool y.boxed] 141)
                          have hE3 := (Below.heap_alloc wr (.cells #[.string y.name, .int .i64 y.slot, .int .i64 y.f, .int .i64 y.t, .bool y.boxed] 141) E (lt_of_block hE)).trans hE
                          clear rV aV hyr
                          cases hby : y.boxed
                          · rw [hby] at f4 hF hS3 hE3 hbx
                            have hbx' : bx = 0 := by simpa using hbx.symm
                            subst hbx'
                            clear hbx
                            go_wp2_with fail
                            generalize wr.alloc (.cells #[.string y.name, .int .i64 y.slot, .int .i64 y.f, .int .i64 y.t, .bool false] 141) = w3 at *
                            generalize wr.heap.size = F at *
                            refine (textS hS3 y.name (by omega) hxs).mono ?_
                            rintro e w4 ⟨rfl, v4, hS4, hk4⟩
                            have hE4 := hk4 _ _ _ _ hE3 (by decide) (by decide)
                            have hF4 := hk4 _ _ _ _ hF (by decide) (by decide)
                            have p1 : w4.cell? ⟨F, 1, none⟩ = some (.int .i64 y.slot) := cell_of_block hF4 rfl
                            have p2 : w4.cell? ⟨F, 2, none⟩ = some (.int .i64 y.f) := cell_of_block hF4 rfl
                            have p3 : w4.cell? ⟨F, 3, none⟩ = some (.int .i64 y.t) := cell_of_block hF4 rfl
                            have p4 : w4.cell? ⟨F, 4, none⟩ = some (.bool false) := cell_of_block hF4 rfl
                            go_wp2_with fail
                            refine (num4S hS4 y.slot y.f y.t 0 y0 y1 y2 (by decide) (by omega)).mono ?_
                            rintro e w5 ⟨rfl, v5, hS5, hk5⟩
                            have hE5 := hk5 _ _ _ _ hE4 (by decide) (by decide)
                            go_wp2
                            go_roundw
                            case rel => exact ⟨j + 1, _, _, by simp, by omega, hS5, hE5, by (simp only [List.append_assoc] at heq2 ⊢; exact heq2)⟩
                            case measure => simp [intOf]; omega
                          · rw [hby] at f4 hF hS3 hE3 hbx
                            have hbx' : bx = 1 := by simpa using hbx.symm
                            subst hbx'
                            clear hbx
                            go_wp2_with fail
                            generalize wr.alloc (.cells #[.string y.name, .int .i64 y.slot, .int .i64 y.f, .int .i64 y.t, .bool true] 141) = w3 at *
                            generalize wr.heap.size = F at *
                            refine (textS hS3 y.name (by omega) hxs).mono ?_
                            rintro e w4 ⟨rfl, v4, hS4, hk4⟩
                            have hE4 := hk4 _ _ _ _ hE3 (by decide) (by decide)
                            have hF4 := hk4 _ _ _ _ hF (by decide) (by decide)
                            have p1 : w4.cell? ⟨F, 1, none⟩ = some (.int .i64 y.slot) := cell_of_block hF4 rfl
                            have p2 : w4.cell? ⟨F, 2, none⟩ = some (.int .i64 y.f) := cell_of_block hF4 rfl
                            have p3 : w4.cell? ⟨F, 3, none⟩ = some (.int .i64 y.t) := cell_of_block hF4 rfl
                            have p4 : w4.cell? ⟨F, 4, none⟩ = some (.bool true) := cell_of_block hF4 rfl
                            go_wp2_with fail
                            refine (num4S hS4 y.slot y.f y.t 1 y0 y1 y2 (by decide) (by omega)).mono ?_
                            rintro e w5 ⟨rfl, v5, hS5, hk5⟩
                            have hE5 := hk5 _ _ _ _ hE4 (by decide) (by decide)
                            go_wp2
                            go_roundw
                            case rel => exact ⟨j + 1, _, _, by simp, by omega, hS5, hE5, by (simp only [List.append_assoc] at heq2 ⊢; exact heq2)⟩
                            case measure => simp [intOf]; omega
                        · obtain rfl : j = x.vars.length := by omega
                          have hjd : decide ((x.vars.length : Int) < (x.vars.length : Int)) = false := by simp
                          rw [drop_all, List.nil_append, ← hT3] at heq
                          clear rV aV
                          go_wp2
                          go_roundw
                          case rel => exact ⟨k + 1, _, _, by simp, by omega, hS, heq⟩
                          case measure => simp [intOf]; omega
            · obtain rfl : k = m.funcs.length := by omega
              have hkd : decide ((m.funcs.length : Int) < (m.funcs.length : Int)) = false := by simp
              rw [drop_all, List.append_nil] at heq
              subst heq
              clear hrow0 a0
              obtain ⟨oaV, nV', cV, rfl⟩ := row_form hS.row
              have hn' : nV' = l.length := row_n hS.row
              subst hn'
              have hcell : ∀ (k : Nat) (b : UInt8), l[k]? = some b → ∃ ad, oaV = some ad ∧ wr.cell? (ad.add k) = some (bv b) := fun k b hb => by
                rcases hS.row.2 with ⟨h1, h2⟩ | ⟨g, cap, cur, h1, _⟩
                · have : l = [] := List.eq_nil_of_length_eq_zero h2
                  subst this
                  simp at hb
                · injection h1 with h2 h3 h4
                  subst h2
                  exact ⟨_, rfl, World.ownsRow.cells hS.row (g := g) rfl k (bv b) (by rw [List.getElem?_map, hb]; rfl)⟩
              have cp : wr.cell? ⟨pb, 0, none⟩ = some (.slice oaV l.length cV) := cell_of_block hS.wr.blk rfl
              go_wp2_with fail
              go_loop [21, 234] (fun s21 s234 => ∃ k : Nat, s234 = .int .i64 (k : Int) ∧ s21 = .int .i64 (sumB (l.take k) : Int) ∧ k ≤ l.length) (fun _ s234 => l.length - (intOf s234).toNat)
              case atStart => exact ⟨0, rfl, rfl, Nat.zero_le _⟩
              case round =>
                obtain ⟨k, rfl, rfl, hk⟩ := hrel
                by_cases hkn : k < l.length
                · obtain ⟨b, hx⟩ : ∃ b, l[k]? = some b := ⟨_, List.getElem?_eq_getElem hkn⟩
                  have hkd : decide ((k : Int) < (l.length : Int)) = true := by simp; omega
                  obtain ⟨ad, rfl, hcl⟩ := hcell k b hx
                  have hlt := sumB_lt (l.take k)
                  have hb := b.toNat_lt
                  have hsum : sumB (l.take (k + 1)) = (37 * sumB (l.take k) + b.toNat) % 8191 := by
                    unfold sumB
                    rw [List.take_add_one, hx, Option.toList_some, List.foldl_append]
                    rfl
                  unfold bv at hcl
                  generalize b.toNat = bn at *
                  generalize hSm : sumB (l.take k) = Sm at *
                  have q5 : Aside ((wrap64 (wrap64 ((Sm : Int) * 37) + wrap64 (bn : Int))).tmod 8191 = (((Sm * 37 + bn) % 8191 : Nat) : Int)) := sum_val Sm bn hlt hb
                  have q6 : Aside (sumB (l.take (k + 1)) = (Sm * 37 + bn) % 8191) := hsum.trans (sum_flip Sm bn).symm
                  clear hsum hSm hlt hb hcell
                  go_wp2
                  go_round
                  case rel =>
                    refine ⟨k + 1, by simp, ?_, hkn⟩
                    rw [q6.out, q5.out]
                  case measure =>
                    clear q5 q6 hcl
                    simp [intOf]
                    omega
                · obtain rfl : k = l.length := by omega
                  have hkd : decide ((l.length : Int) < (l.length : Int)) = false := by simp
                  have hlt := sumB_lt l
                  have htl : sumB (l.take l.length) = sumB l := by rw [List.take_length]
                  clear hcell
                  go_wp2_with fail
                  refine (num1S hS (sumB l : Int) ⟨by omega, by omega⟩ (by omega)).mono ?_
                  rintro e w3 ⟨rfl, v3, hS3, hk3⟩
                  have cp3 : w3.cell? ⟨pb, 0, none⟩ = some v3 := cell_of_block hS3.wr.blk rfl
                  go_wp2
                  go_ret
                  exact ⟨_, rfl, hS3.row, hS3.low⟩
end Go.Proofs.YthbkklnahhdgcaaDoor.EncE
