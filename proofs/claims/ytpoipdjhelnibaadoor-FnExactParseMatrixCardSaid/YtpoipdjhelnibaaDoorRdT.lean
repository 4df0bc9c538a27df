/-
  Plain facts: the texts as lists of bytes.
-/
import Derived.Test.YtpoipdjhelnibaaDoorRdQ
import Derived.Test.YtpoipdjhelnibaaDoorTxt
namespace Go.Proofs.YtpoipdjhelnibaaDoor
set_option linter.unusedVariables false

theorem bs_app (A B : List UInt8) : (⟨A.toArray⟩ : ByteArray) ++ ⟨B.toArray⟩ = ⟨(A ++ B).toArray⟩ := ByteArray.mk_append_mk A B
theorem fTx_list (a b c : Int) : fTx a b c = ⟨(fTl a b c).toArray⟩ := by
  have e40 : (⟨#[40]⟩ : ByteArray) = ⟨[(40 : UInt8)].toArray⟩ := rfl
  have e44 : (⟨#[44]⟩ : ByteArray) = ⟨[(44 : UInt8)].toArray⟩ := rfl
  have e41 : (⟨#[41]⟩ : ByteArray) = ⟨[(41 : UInt8)].toArray⟩ := rfl
  unfold fTx fTl itS
  rw [e40, e44, e41]
  simp only [bs_app]
  congr 2
  simp
theorem mTx_list (a b c g : Int) : mTx a b c g = ⟨(mTl a b c g).toArray⟩ := by
  have e91 : (⟨#[91]⟩ : ByteArray) = ⟨[(91 : UInt8)].toArray⟩ := rfl
  have e44 : (⟨#[44]⟩ : ByteArray) = ⟨[(44 : UInt8)].toArray⟩ := rfl
  have e59 : (⟨#[59]⟩ : ByteArray) = ⟨[(59 : UInt8)].toArray⟩ := rfl
  have e93 : (⟨#[93]⟩ : ByteArray) = ⟨[(93 : UInt8)].toArray⟩ := rfl
  unfold mTx mTl itS
  rw [e91, e44, e59, e93]
  simp only [bs_app]
  congr 2
  simp
theorem eq_fTx {s : ByteArray} {a b c : Int} : s = fTx a b c ↔ s.data.toList = fTl a b c := by
  rw [fTx_list]
  constructor
  · intro h; rw [h]
  · intro h
    apply ByteArray.ext
    apply Array.toList_inj.1
    rw [h]
theorem eq_mTx {s : ByteArray} {a b c g : Int} : s = mTx a b c g ↔ s.data.toList = mTl a b c g := by
  rw [mTx_list]
  constructor
  · intro h; rw [h]
  · intro h
    apply ByteArray.ext
    apply Array.toList_inj.1
    rw [h]
end Go.Proofs.YtpoipdjhelnibaaDoor
