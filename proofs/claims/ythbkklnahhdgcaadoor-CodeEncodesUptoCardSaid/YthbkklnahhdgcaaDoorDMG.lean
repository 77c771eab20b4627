/-
  An image's own bytes are such as Decode takes, and are that image again; and Encode at nil.
-/
import Derived.Test.YthbkklnahhdgcaaDoorDDecK
import Derived.Test.YthbkklnahhdgcaaDoorDCodeOb
namespace Go.Proofs.YthbkklnahhdgcaaDoor.DecM
open Go Go.Proofs Go.RowKit Lib CodeR CodeA CodeB CodeD CodeP CodeQ CodeS CodeK CodeL CodeM CodeI CodeJ EncA EncB DecA DecB DecC DecD DecG DecR DecI DecJ DecP DecK CodeO ErrC ErrD

theorem imR_of {m : Im} (hok : ImOk m) (hnm : ∀ c ∈ m.classes, c.names.length = c.methods.length) (hcn : ∀ c ∈ m.consts, CnN c) : ImR m := by
  have hs : ∀ {s : ByteArray}, stOk s → s.size ≤ 9223372036854775807 := fun {s} h => by unfold stOk at h; omega
  obtain ⟨h1, h2, h3⟩ := hok.lens
  refine ⟨by omega, fun c hc => ⟨hs (hok.cn c hc).1, (hok.cn c hc).2, hcn c hc⟩, by omega, fun k hk => ?_, by omega, fun f hf => ?_⟩
  · have h := hok.cl k hk
    obtain ⟨l1, l2, l3⟩ := h.lens
    exact ⟨hs h.name, h.above, by omega, fun s hs' => hs (h.fields s hs'), by omega, fun s hs' => hs (h.names s hs'), h.methods, hnm k hk⟩
  · have h := hok.fn f hf
    obtain ⟨l1, l2, l3⟩ := h.lens
    exact ⟨hs h.name, h.params, h.slots, by omega, h.code, by omega, h.hs, by omega, fun x hx => ⟨hs (h.vars x hx).1, (h.vars x hx).2⟩⟩
theorem all2_map {α : Type} {R : α → α → Prop} (f : α → α) (h : ∀ x, R x (f x)) : ∀ l : List α, All2 R l (l.map f)
  | [] => .nil
  | x :: l => .cons (h x) (all2_map f h l)
theorem same_imN (m : Im) : ImSame m (imN m) := ⟨all2_map fcN (fun _ => ⟨rfl, rfl, rfl, rfl, rfl, rfl⟩) _, rfl, all2_map clN (fun _ => ⟨rfl, rfl, rfl, rfl, rfl⟩) _⟩
theorem good_enc {m : Im} (h : ImR m) : DecI.Good (enc m) ∧ (imP (enc m) 4 false).1 = imN m := by
  have hi : imP (enc m) 4 false = (imN m, (body m).length, false) := rd_im h (num (sumB (body m)))
  have hs := sumB_lt (body m)
  have hn := numP_num (body m) [] (sumB (body m) : Int) (by omega) (by omega)
  rw [List.append_nil] at hn
  obtain ⟨n1, n2, n3⟩ := num_good hn
  rw [unz_zz] at n1
  refine ⟨⟨?_, ?_, ?_, ?_, ?_, ?_⟩, ?_⟩
  · obtain ⟨X, hX⟩ : ∃ X, enc m = head ++ X := by
      unfold enc body
      simp only [List.append_assoc]
      exact ⟨_, rfl⟩
    unfold sub
    rw [hX, List.drop_zero]
    rfl
  · rw [hi]
  · rw [hi]
    show numV (body m ++ num _) (body m).length = (sumB ((body m ++ num _).take (body m).length) : Int)
    rw [n1, List.take_left]
  · rw [hi]
    exact n3
  · rw [hi]
    show numE (body m ++ num _) (body m).length = (body m ++ num _).length
    rw [n2, List.length_append]
  · rw [hi]
    exact enc_imN m
  · rw [hi]

set_option maxRecDepth 100000 in
theorem Encode_nil (w : World) : Calls Tryd.prog 26 #[.pointer none] w fun e w' => e = .returned (.slice none 0 0) ∧ w' = w := by
  go_enter Tryd.func26, Tryd.ntmps26
  go_wp2
  go_ret
  exact ⟨rfl, rfl⟩
end Go.Proofs.YthbkklnahhdgcaaDoor.DecM

/-
  An image of few things with short texts has so many bytes at the most. No program in sight.
-/
namespace Go.Proofs.YthbkklnahhdgcaaDoor.DecO
open Go Go.RowKit CodeR CodeK CodeOb EncA DecG DecR

theorem sum_le {α : Type} (f : α → Nat) (B : Nat) : ∀ (l : List α), (∀ x ∈ l, f x ≤ B) → (l.map f).sum ≤ l.length * B
  | [], _ => by simp
  | x :: l, h => by
    have h1 := h x (List.mem_cons_self ..)
    have h2 := sum_le f B l (fun y hy => h y (List.mem_cons_of_mem _ hy))
    rw [List.map_cons, List.sum_cons, List.length_cons, Nat.succ_mul]
    omega
theorem num20 {n : Int} (h : i64 n) : (num n).length ≤ 10 := num_len h.1 h.2
theorem nat20 {n : Nat} (h : n ≤ 1048576) : (num (n : Int)).length ≤ 10 := num_len (by omega) (by omega)
theorem txt20 {s : ByteArray} (h : stOk s) : (txt s).length ≤ 1048586 := by
  unfold stOk at h
  unfold txt
  rw [List.length_append, sl_len]
  have := nat20 h
  omega
theorem num01 {b : Bool} : (num (if b then (1 : Int) else 0)).length ≤ 10 := by cases b <;> exact num_len (by decide) (by decide)
theorem cn20 {c : Cn} (h : CnOk c) : (cn c).length ≤ 1048606 := by
  unfold cn
  have h1 := txt20 h.1
  have h2 := num20 h.2
  have h3 : (num 1).length ≤ 10 := num_len (by decide) (by decide)
  have h4 : (num 0).length ≤ 10 := num_len (by decide) (by decide)
  split <;> rw [List.length_append] <;> omega
theorem zip_len {α β : Type} (a : List α) (b : List β) : (a.zip b).length ≤ a.length := by
  rw [List.length_zip]
  omega
theorem cl20 {c : Cl} (h : ClOk c) (hs : cSize c ≤ 6000) : (cl c).length ≤ 6300000000 := by
  unfold cSize at hs
  unfold cl
  simp only [List.length_append, flat_len]
  have h1 := txt20 h.name
  have h2 := num20 h.above
  have h3 := nat20 (n := c.fields.length) (by omega)
  have h4 := nat20 (n := c.names.length) (by omega)
  have h5 := sum_le (fun s => (txt s).length) 1048596 c.fields (fun s hs => by have := txt20 (h.fields s hs); omega)
  have h6 := sum_le (fun p => (nm p).length) 1048596 (c.names.zip c.methods) (fun p hp => by
    have a1 := txt20 (h.names p.1 (List.of_mem_zip hp).1)
    have a2 := num20 (h.methods p.2 (List.of_mem_zip hp).2)
    unfold nm
    rw [List.length_append]
    omega)
  have h7 := zip_len c.names c.methods
  have h8 : c.fields.length * 1048596 ≤ 6000 * 1048596 := Nat.mul_le_mul_right _ (by omega)
  have h9 : (c.fields.length + (c.names.zip c.methods).length) * 1048596 ≤ 6000 * 1048596 := Nat.mul_le_mul_right _ (by omega)
  rw [Nat.add_mul] at h9
  omega
theorem fc20 {f : Fc} (h : FcOk f) (hs : fSize f ≤ 6000) : (fc f).length ≤ 6300000000 := by
  unfold fSize at hs
  unfold fc
  simp only [List.length_append, flat_len]
  have h1 := txt20 h.name
  have h2 := num20 h.params
  have h3 := num20 h.slots
  have h4 := nat20 (n := f.code.length) (by omega)
  have h5 := nat20 (n := f.hs.length) (by omega)
  have h6 := nat20 (n := f.vars.length) (by omega)
  have h7 := sum_le (fun x => (i3 x).length) 1048630 f.code (fun x hx => by
    have a := h.code x hx
    have a1 := num20 a.1
    have a2 := num20 a.2.1
    have a3 := num20 a.2.2
    unfold i3
    simp only [List.length_append]
    omega)
  have h8 := sum_le (fun x => (EncA.h3 x).length) 1048630 f.hs (fun x hx => by
    have a := h.hs x hx
    have a1 := num20 a.1
    have a2 := num20 a.2.1
    have a3 := num20 a.2.2
    unfold EncA.h3
    simp only [List.length_append]
    omega)
  have h9 := sum_le (fun x => (vr x).length) 1048630 f.vars (fun x hx => by
    have a := h.vars x hx
    have a1 := txt20 a.1
    have a2 := num20 a.2.1
    have a3 := num20 a.2.2.1
    have a4 := num20 a.2.2.2
    have a5 := num01 (b := x.boxed)
    unfold vr
    simp only [List.length_append]
    omega)
  have h0 : (f.code.length + f.hs.length + f.vars.length) * 1048630 ≤ 6000 * 1048630 := Nat.mul_le_mul_right _ (by omega)
  rw [Nat.add_mul, Nat.add_mul] at h0
  omega
theorem body20 {m : Im} (h : ImOk m) (hF : FewIm m) : (body m).length ≤ 35184372088832 := by
  obtain ⟨l1, l2, l3, l4, l5⟩ := hF
  unfold body
  simp only [List.length_append, flat_len]
  have h1 := nat20 (n := m.consts.length) (by omega)
  have h2 := nat20 (n := m.classes.length) (by omega)
  have h3 := nat20 (n := m.funcs.length) (by omega)
  have h4 := sum_le (fun x => (cn x).length) 1048606 m.consts (fun x hx => cn20 (h.cn x hx))
  have h5 := sum_le (fun x => (cl x).length) 6300000000 m.classes (fun x hx => cl20 (h.cl x hx) (l5 x hx))
  have h6 := sum_le (fun x => (fc x).length) 6300000000 m.funcs (fun x hx => fc20 (h.fn x hx) (l4 x hx))
  have h7 : m.consts.length * 1048606 ≤ 1100 * 1048606 := Nat.mul_le_mul_right _ l2
  have h8 : m.classes.length * 6300000000 ≤ 260 * 6300000000 := Nat.mul_le_mul_right _ l3
  have h9 : m.funcs.length * 6300000000 ≤ 260 * 6300000000 := Nat.mul_le_mul_right _ l1
  have h10 : head.length = 4 := rfl
  omega
end Go.Proofs.YthbkklnahhdgcaaDoor.DecO
