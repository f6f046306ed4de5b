/-
  A pointer into a struct, read as a pointer to a part of it.
-/
import Derived.Test.YtbgaobcgpkjjkaaAvKit
namespace Go.Av
theorem RepP.win {ν : Nat → FuncId} {w : World} {S : Nat → Prop} {cells : List AV} {off : Nat} {v : Value} (h : RepP ν w S (.ptr cells off) v) (n : Nat) : RepP ν w S (.ptr ((cells.drop off).take n) 0) v := by
  cases h with
  | ptr us hS hc hr =>
    rename_i b base
    have := RepP.ptr (ν := ν) (w := w) (S := S) (cells := (cells.drop off).take n) (off := 0) (b := b) (base := base + off) (fun i => us (off + i)) hS (fun i hi => by
      have hi' : off + i < cells.length := by simp at hi; omega
      have := hc (off + i) hi'
      rwa [← Nat.add_assoc] at this) (fun i hi => by
      have hi' : off + i < cells.length := by simp at hi; omega
      have := hr (off + i) hi'
      simpa using this)
    simpa using this
/-- The same function over the struct's part. -/
theorem OkM.win {P : Program} {ν : Nat → FuncId} {f : Nat} {cells : List AV} {off n : Nat} {rest : List AV} {H : Hp} {nx : Nat} {Φ : AV → Hp → Nat → Prop} (h : OkM P ν f (.ptr ((cells.drop off).take n) 0 :: rest) H nx Φ) : OkM P ν f (.ptr cells off :: rest) H nx Φ := by
  refine ⟨h.1, fun w0 S β w vs h1 h2 h3 h4 => h.2 w0 S β w vs h1 h2 (by simpa using h3) fun i hi => ?_⟩
  cases i with
  | zero =>
    have := h4 0 (by simp)
    simp only [List.getElem_cons_zero] at this ⊢
    cases this with
    | pure h => exact .pure (h.win n)
  | succ i =>
    have := h4 (i + 1) (by simpa using hi)
    simpa using this
theorem Fz.win {P : Program} {ν : Nat → FuncId} {f : Nat} {cells : List AV} {off n : Nat} {rest : List AV} {r : AV} (h : Fz (OkM P ν) f (.ptr ((cells.drop off).take n) 0 :: rest) r) : Fz (OkM P ν) f (.ptr cells off :: rest) r := OkM.win h
end Go.Av
