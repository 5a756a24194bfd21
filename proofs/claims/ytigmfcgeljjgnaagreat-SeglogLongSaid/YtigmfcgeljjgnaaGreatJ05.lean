/- A part of the walks through the log and its document, and of the law in plain Lean: Ty Sd. -/
import Derived.Test.YtigmfcgeljjgnaaGreatJ04
import Derived.Test.YtigmfcgeljjgnaaGreatRows
import Derived.KernelRfl
set_option linter.all false
namespace Go.Proofs.YtigmfcgeljjgnaaGreat
open Go.Wst
theorem inf_mk {P:Program} {t:TypeId} {sz bytes:Nat} {z:Value} (h:(P.info? t).map (fun i=>(i.size,i.bytes,i.zero))=some (sz,bytes,some z)):Inf P t sz bytes z:=by
  cases hi:P.info? t with
  | none=>simp [hi] at h
  | some i=>simp only [hi,Option.map_some,Option.some.injEq,Prod.mk.injEq] at h;exact ⟨i,hi,h.1,h.2.1,h.2.2⟩
theorem fld_mk {P:Program} {s:TypeId} {fs:Array Field} {f off:Nat} {t:TypeId} {sz bytes:Nat} {z:Value} (hu:P.underlying s=some (.struct fs)) (hf:(fs[f]?).map (fun x=>(x.offset,x.type))=some (off,t)) (hi:Inf P t sz bytes z) (hn:sz≠0):Fld P s f off t:=by
  cases hx:fs[f]? with
  | none=>simp [hx] at hf
  | some x=>
    simp only [hx,Option.map_some,Option.some.injEq,Prod.mk.injEq] at hf
    obtain ⟨i,h1,h2,h3,h4⟩:=hi.ex
    exact ⟨fs,x,i,hu,hx,by rw [hf.2];exact h1,by rw [h2];exact hn,hf.1,hf.2⟩
theorem many_mk {P:Program} {t:TypeId} {d:TypeDesc} {sz bytes:Nat} {z:Value} (hd:match d with | .struct _ | .array _ _=>True | _=>False) (hu:P.underlying t=some d) (hi:Inf P t sz bytes z):Many P t sz:=by
  obtain ⟨i,h1,h2,h3,h4⟩:=hi.ex
  exact ⟨d,i,hu,hd,h1,h2⟩
instance:Und Tryz.prog 2 (.int .i64):=⟨Tryz.underlying2⟩
instance:Inf Tryz.prog 2 1 8 (.int .i64 0):=inf_mk (by kernel_rfl)
instance:One Tryz.prog 2:=⟨_,Tryz.underlying2,trivial⟩
instance:Und Tryz.prog 3 (.int .i64):=⟨Tryz.underlying3⟩
instance:Inf Tryz.prog 3 1 8 (.int .i64 0):=inf_mk (by kernel_rfl)
instance:One Tryz.prog 3:=⟨_,Tryz.underlying3,trivial⟩
instance:Und Tryz.prog 4 .bool:=⟨Tryz.underlying4⟩
instance:Und Tryz.prog 5 (.int .u8):=⟨Tryz.underlying5⟩
instance:Inf Tryz.prog 5 1 1 (.int .u8 0):=inf_mk (by kernel_rfl)
instance:One Tryz.prog 5:=⟨_,Tryz.underlying5,trivial⟩
instance:Und Tryz.prog 9 .string:=⟨Tryz.underlying9⟩
instance:Inf Tryz.prog 9 1 16 (.string ByteArray.empty):=inf_mk (by kernel_rfl)
instance:One Tryz.prog 9:=⟨_,Tryz.underlying9,trivial⟩
instance:Und Tryz.prog 20 (.interface #[]):=⟨Tryz.underlying20⟩
instance:Und Tryz.prog 21 (.int .i32):=⟨Tryz.underlying21⟩
instance:Und Tryz.prog 22 (.slice 39):=⟨Tryz.underlying22⟩
instance:Inf Tryz.prog 24 2 16 (.agg #[(.int .i64 0),(.int .i64 0)]):=inf_mk (by kernel_rfl)
instance:Many Tryz.prog 24 2:=many_mk trivial Tryz.underlying24 ii
instance:Places Tryz.prog 24 [(0,1),(1,1)]:=⟨_,Tryz.underlying24,by kernel_rfl⟩
instance:Fld Tryz.prog 24 0 0 3:=fld_mk Tryz.underlying24 (by kernel_rfl) ii (by decide)
instance:Fld Tryz.prog 24 1 1 3:=fld_mk Tryz.underlying24 (by kernel_rfl) ii (by decide)
instance:Und Tryz.prog 28 (.pointer 62):=⟨Tryz.underlying28⟩
instance:Inf Tryz.prog 28 1 8 (.pointer none):=inf_mk (by kernel_rfl)
instance:One Tryz.prog 28:=⟨_,Tryz.underlying28,trivial⟩
instance:Inf Tryz.prog 29 1 8 (.int .i64 0):=inf_mk (by kernel_rfl)
instance:One Tryz.prog 29:=⟨_,Tryz.underlying29,trivial⟩
instance:Und Tryz.prog 32 (.pointer 69):=⟨Tryz.underlying32⟩
instance:Inf Tryz.prog 32 1 8 (.pointer none):=inf_mk (by kernel_rfl)
instance:One Tryz.prog 32:=⟨_,Tryz.underlying32,trivial⟩
instance:Und Tryz.prog 36 (.slice 37):=⟨Tryz.underlying36⟩
instance:Und Tryz.prog 37 (.slice 51):=⟨Tryz.underlying37⟩
instance:Inf Tryz.prog 37 1 24 (.slice none 0 0):=inf_mk (by kernel_rfl)
instance:One Tryz.prog 37:=⟨_,Tryz.underlying37,trivial⟩
instance:Inf Tryz.prog 39 5 56 (.agg #[(.int .i64 0),(.slice none 0 0),(.int .i64 0),(.int .i64 0),(.int .i64 0)]):=inf_mk (by kernel_rfl)
instance:Many Tryz.prog 39 5:=many_mk trivial Tryz.underlying39 ii
instance:Fld Tryz.prog 39 0 0 3:=fld_mk Tryz.underlying39 (by kernel_rfl) ii (by decide)
instance:Fld Tryz.prog 39 1 1 37:=fld_mk Tryz.underlying39 (by kernel_rfl) ii (by decide)
instance:Fld Tryz.prog 39 2 2 3:=fld_mk Tryz.underlying39 (by kernel_rfl) ii (by decide)
instance:Und Tryz.prog 49 (.int .i64):=⟨Tryz.underlying49⟩
instance:Inf Tryz.prog 49 1 8 (.int .i64 0):=inf_mk (by kernel_rfl)
instance:One Tryz.prog 49:=⟨_,Tryz.underlying49,trivial⟩
instance:Inf Tryz.prog 51 6 48 (.agg #[(.int .i64 0),(.int .i64 0),(.int .i64 0),(.int .i64 0),(.int .i64 0),(.int .i64 0)]):=inf_mk (by kernel_rfl)
instance:Many Tryz.prog 51 6:=many_mk trivial Tryz.underlying51 ii
instance:Places Tryz.prog 51 [(0,1),(1,1),(2,1),(3,1),(4,1),(5,1)]:=⟨_,Tryz.underlying51,by kernel_rfl⟩
instance:StE Tryz.prog 51 [(0,2),(1,3),(2,2),(3,2),(4,49),(5,2)]:=⟨_,Tryz.underlying51,by kernel_rfl,by kernel_rfl,by kernel_rfl,by kernel_rfl⟩
instance:Fld Tryz.prog 51 0 0 2:=fld_mk Tryz.underlying51 (by kernel_rfl) ii (by decide)
instance:Fld Tryz.prog 51 1 1 3:=fld_mk Tryz.underlying51 (by kernel_rfl) ii (by decide)
instance:Fld Tryz.prog 51 2 2 2:=fld_mk Tryz.underlying51 (by kernel_rfl) ii (by decide)
instance:Fld Tryz.prog 51 3 3 2:=fld_mk Tryz.underlying51 (by kernel_rfl) ii (by decide)
instance:Fld Tryz.prog 51 4 4 49:=fld_mk Tryz.underlying51 (by kernel_rfl) ii (by decide)
instance:Fld Tryz.prog 51 5 5 2:=fld_mk Tryz.underlying51 (by kernel_rfl) ii (by decide)
instance:Und Tryz.prog 55 (.slice 9):=⟨Tryz.underlying55⟩
instance:Inf Tryz.prog 55 1 24 (.slice none 0 0):=inf_mk (by kernel_rfl)
instance:One Tryz.prog 55:=⟨_,Tryz.underlying55,trivial⟩
instance:Und Tryz.prog 57 (.map 9 80):=⟨Tryz.underlying57⟩
instance:Inf Tryz.prog 57 1 8 (.map none):=inf_mk (by kernel_rfl)
instance:One Tryz.prog 57:=⟨_,Tryz.underlying57,trivial⟩
instance:Inf Tryz.prog 59 1 8 (.agg #[(.map none)]):=inf_mk (by kernel_rfl)
instance:Many Tryz.prog 59 1:=many_mk trivial Tryz.underlying59 ii
instance:Places Tryz.prog 59 [(0,1)]:=⟨_,Tryz.underlying59,by kernel_rfl⟩
instance:Fld Tryz.prog 59 0 0 57:=fld_mk Tryz.underlying59 (by kernel_rfl) ii (by decide)
instance:Und Tryz.prog 60 (.slice 93):=⟨Tryz.underlying60⟩
instance:Inf Tryz.prog 60 1 24 (.slice none 0 0):=inf_mk (by kernel_rfl)
instance:One Tryz.prog 60:=⟨_,Tryz.underlying60,trivial⟩
instance:Inf Tryz.prog 62 4 48 (.agg #[(.map none),(.map none),(.slice none 0 0),(.int .i64 0)]):=inf_mk (by kernel_rfl)
instance:Places Tryz.prog 62 [(0,1),(1,1),(2,1),(3,1)]:=⟨_,Tryz.underlying62,by kernel_rfl⟩
instance:Fld Tryz.prog 62 0 0 59:=fld_mk Tryz.underlying62 (by kernel_rfl) ii (by decide)
instance:Fld Tryz.prog 62 1 1 59:=fld_mk Tryz.underlying62 (by kernel_rfl) ii (by decide)
instance:Fld Tryz.prog 62 2 2 60:=fld_mk Tryz.underlying62 (by kernel_rfl) ii (by decide)
instance:Fld Tryz.prog 62 3 3 3:=fld_mk Tryz.underlying62 (by kernel_rfl) ii (by decide)
instance:Inf Tryz.prog 67 2 24 (.agg #[(.string ByteArray.empty),(.int .i64 0)]):=inf_mk (by kernel_rfl)
instance:Many Tryz.prog 67 2:=many_mk trivial Tryz.underlying67 ii
instance:Places Tryz.prog 67 [(0,1),(1,1)]:=⟨_,Tryz.underlying67,by kernel_rfl⟩
instance:Fld Tryz.prog 67 0 0 9:=fld_mk Tryz.underlying67 (by kernel_rfl) ii (by decide)
instance:Fld Tryz.prog 67 1 1 3:=fld_mk Tryz.underlying67 (by kernel_rfl) ii (by decide)
instance:Inf Tryz.prog 69 5 64 (.agg #[(.string ByteArray.empty),(.int .i64 0),(.pointer none),(.slice none 0 0),(.int .i64 0)]):=inf_mk (by kernel_rfl)
instance:Places Tryz.prog 69 [(0,2),(2,1),(3,1),(4,1)]:=⟨_,Tryz.underlying69,by kernel_rfl⟩
instance:Fld Tryz.prog 69 0 0 67:=fld_mk Tryz.underlying69 (by kernel_rfl) ii (by decide)
instance:Fld Tryz.prog 69 1 2 28:=fld_mk Tryz.underlying69 (by kernel_rfl) ii (by decide)
instance:Fld Tryz.prog 69 2 3 37:=fld_mk Tryz.underlying69 (by kernel_rfl) ii (by decide)
instance:Fld Tryz.prog 69 3 4 3:=fld_mk Tryz.underlying69 (by kernel_rfl) ii (by decide)
instance:Und Tryz.prog 80 (.slice 5):=⟨Tryz.underlying80⟩
instance:Inf Tryz.prog 80 1 24 (.slice none 0 0):=inf_mk (by kernel_rfl)
instance:One Tryz.prog 80:=⟨_,Tryz.underlying80,trivial⟩
instance:Inf Tryz.prog 90 1 8 .nilFunc:=inf_mk (by kernel_rfl)
instance:One Tryz.prog 90:=⟨_,Tryz.underlying90,trivial⟩
instance:Und Tryz.prog 91 (.array 3 3):=⟨Tryz.underlying91⟩
instance:Inf Tryz.prog 91 3 24 (.agg #[(.int .i64 0),(.int .i64 0),(.int .i64 0)]):=inf_mk (by kernel_rfl)
instance:Inf Tryz.prog 93 7 72 (.agg #[.nilFunc,(.int .i64 0),(.string ByteArray.empty),(.int .i64 0),(.int .i64 0),(.int .i64 0),(.string ByteArray.empty)]):=inf_mk (by kernel_rfl)
instance:Many Tryz.prog 93 7:=many_mk trivial Tryz.underlying93 ii
instance:Places Tryz.prog 93 [(0,1),(1,1),(2,1),(3,3),(6,1)]:=⟨_,Tryz.underlying93,by kernel_rfl⟩
instance:Fld Tryz.prog 93 0 0 90:=fld_mk Tryz.underlying93 (by kernel_rfl) ii (by decide)
instance:Fld Tryz.prog 93 1 1 3:=fld_mk Tryz.underlying93 (by kernel_rfl) ii (by decide)
instance:Inf Tryz.prog 99 3 40 (.agg #[(.slice none 0 0),(.int .i64 0),(.int .i64 0)]):=inf_mk (by kernel_rfl)
instance:Many Tryz.prog 99 3:=many_mk trivial Tryz.underlying99 ii
instance:Fld Tryz.prog 99 0 0 37:=fld_mk Tryz.underlying99 (by kernel_rfl) ii (by decide)
instance:Fld Tryz.prog 99 1 1 3:=fld_mk Tryz.underlying99 (by kernel_rfl) ii (by decide)
instance:Fld Tryz.prog 99 2 2 29:=fld_mk Tryz.underlying99 (by kernel_rfl) ii (by decide)
instance:Und Tryz.prog 104 (.array 6 5):=⟨Tryz.underlying104⟩
instance:Inf Tryz.prog 104 6 6 (.agg #[(.int .u8 0),(.int .u8 0),(.int .u8 0),(.int .u8 0),(.int .u8 0),(.int .u8 0)]):=inf_mk (by kernel_rfl)
instance:One Tryz.prog 105:=⟨_,Tryz.underlying105,trivial⟩
instance:One Tryz.prog 117:=⟨_,Tryz.underlying117,trivial⟩
instance:Inf Tryz.prog 118 1 8 .nilFunc:=inf_mk (by kernel_rfl)
instance:One Tryz.prog 118:=⟨_,Tryz.underlying118,trivial⟩
instance:Inf Tryz.prog 119 1 8 .nilFunc:=inf_mk (by kernel_rfl)
instance:One Tryz.prog 119:=⟨_,Tryz.underlying119,trivial⟩
instance:Inf Tryz.prog 120 1 8 .nilFunc:=inf_mk (by kernel_rfl)
instance:One Tryz.prog 120:=⟨_,Tryz.underlying120,trivial⟩
instance:Inf Tryz.prog 122 3 24 (.agg #[.nilFunc,.nilFunc,.nilFunc]):=inf_mk (by kernel_rfl)
instance:Many Tryz.prog 122 3:=many_mk trivial Tryz.underlying122 ii
instance:Places Tryz.prog 122 [(0,1),(1,1),(2,1)]:=⟨_,Tryz.underlying122,by kernel_rfl⟩
instance:Fld Tryz.prog 122 0 0 118:=fld_mk Tryz.underlying122 (by kernel_rfl) ii (by decide)
instance:Fld Tryz.prog 122 1 1 119:=fld_mk Tryz.underlying122 (by kernel_rfl) ii (by decide)
instance:Fld Tryz.prog 122 2 2 120:=fld_mk Tryz.underlying122 (by kernel_rfl) ii (by decide)
instance:Und Tryz.prog 123 (.array 6 122):=⟨Tryz.underlying123⟩
instance:Inf Tryz.prog 123 18 144 (.agg #[.nilFunc,.nilFunc,.nilFunc,.nilFunc,.nilFunc,.nilFunc,.nilFunc,.nilFunc,.nilFunc,.nilFunc,.nilFunc,.nilFunc,.nilFunc,.nilFunc,.nilFunc,.nilFunc,.nilFunc,.nilFunc]):=inf_mk (by kernel_rfl)
instance:Many Tryz.prog 123 18:=many_mk trivial Tryz.underlying123 ii
instance:Und Tryz.prog 125 (.int .u32):=⟨Tryz.underlying125⟩
instance:Inf Tryz.prog 125 1 4 (.int .u32 0):=inf_mk (by kernel_rfl)
instance:One Tryz.prog 125:=⟨_,Tryz.underlying125,trivial⟩
instance:Und Tryz.prog 136 (.slice 80):=⟨Tryz.underlying136⟩
instance:One Tryz.prog 153:=⟨_,Tryz.underlying153,trivial⟩
instance:Und Tryz.prog 155 (.int .u64):=⟨Tryz.underlying155⟩
instance:Und Tryz.prog 157 (.array 256 125):=⟨Tryz.underlying157⟩
instance:Inf Tryz.prog 157 256 1024 (.agg #[(.int .u32 0),(.int .u32 0),(.int .u32 0),(.int .u32 0),(.int .u32 0),(.int .u32 0),(.int .u32 0),(.int .u32 0),(.int .u32 0),(.int .u32 0),(.int .u32 0),(.int .u32 0),(.int .u32 0),(.int .u32 0),(.int .u32 0),(.int .u32 0),(.int .u32 0),(.int .u32 0),(.int .u32 0),(.int .u32 0),(.int .u32 0),(.int .u32 0),(.int .u32 0),(.int .u32 0),(.int .u32 0),(.int .u32 0),(.int .u32 0),(.int .u32 0),(.int .u32 0),(.int .u32 0),(.int .u32 0),(.int .u32 0),(.int .u32 0),(.int .u32 0),(.int .u32 0),(.int .u32 0),(.int .u32 0),(.int .u32 0),(.int .u32 0),(.int .u32 0),(.int .u32 0),(.int .u32 0),(.int .u32 0),(.int .u32 0),(.int .u32 0),(.int .u32 0),(.int .u32 0),(.int .u32 0),(.int .u32 0),(.int .u32 0),(.int .u32 0),(.int .u32 0),(.int .u32 0),(.int .u32 0),(.int .u32 0),(.int .u32 0),(.int .u32 0),(.int .u32 0),(.int .u32 0),(.int .u32 0),(.int .u32 0),(.int .u32 0),(.int .u32 0),(.int .u32 0),(.int .u32 0),(.int .u32 0),(.int .u32 0),(.int .u32 0),(.int .u32 0),(.int .u32 0),(.int .u32 0),(.int .u32 0),(.int .u32 0),(.int .u32 0),(.int .u32 0),(.int .u32 0),(.int .u32 0),(.int .u32 0),(.int .u32 0),(.int .u32 0),(.int .u32 0),(.int .u32 0),(.int .u32 0),(.int .u32 0),(.int .u32 0),(.int .u32 0),(.int .u32 0),(.int .u32 0),(.int .u32 0),(.int .u32 0),(.int .u32 0),(.int .u32 0),(.int .u32 0),(.int .u32 0),(.int .u32 0),(.int .u32 0),(.int .u32 0),(.int .u32 0),(.int .u32 0),(.int .u32 0),(.int .u32 0),(.int .u32 0),(.int .u32 0),(.int .u32 0),(.int .u32 0),(.int .u32 0),(.int .u32 0),(.int .u32 0),(.int .u32 0),(.int .u32 0),(.int .u32 0),(.int .u32 0),(.int .u32 0),(.int .u32 0),(.int .u32 0),(.int .u32 0),(.int .u32 0),(.int .u32 0),(.int .u32 0),(.int .u32 0),(.int .u32 0),(.int .u32 0),(.int .u32 0),(.int .u32 0),(.int .u32 0),(.int .u32 0),(.int .u32 0),(.int .u32 0),(.int .u32 0),(.int .u32 0),(.int .u32 0),(.int .u32 0),(.int .u32 0),(.int .u32 0),(.int .u32 0),(.int .u32 0),(.int .u32 0),(.int .u32 0),(.int .u32 0),(.int .u32 0),(.int .u32 0),(.int .u32 0),(.int .u32 0),(.int .u32 0),(.int .u32 0),(.int .u32 0),(.int .u32 0),(.int .u32 0),(.int .u32 0),(.int .u32 0),(.int .u32 0),(.int .u32 0),(.int .u32 0),(.int .u32 0),(.int .u32 0),(.int .u32 0),(.int .u32 0),(.int .u32 0),(.int .u32 0),(.int .u32 0),(.int .u32 0),(.int .u32 0),(.int .u32 0),(.int .u32 0),(.int .u32 0),(.int .u32 0),(.int .u32 0),(.int .u32 0),(.int .u32 0),(.int .u32 0),(.int .u32 0),(.int .u32 0),(.int .u32 0),(.int .u32 0),(.int .u32 0),(.int .u32 0),(.int .u32 0),(.int .u32 0),(.int .u32 0),(.int .u32 0),(.int .u32 0),(.int .u32 0),(.int .u32 0),(.int .u32 0),(.int .u32 0),(.int .u32 0),(.int .u32 0),(.int .u32 0),(.int .u32 0),(.int .u32 0),(.int .u32 0),(.int .u32 0),(.int .u32 0),(.int .u32 0),(.int .u32 0),(.int .u32 0),(.int .u32 0),(.int .u32 0),(.int .u32 0),(.int .u32 0),(.int .u32 0),(.int .u32 0),(.int .u32 0),(.int .u32 0),(.int .u32 0),(.int .u32 0),(.int .u32 0),(.int .u32 0),(.int .u32 0),(.int .u32 0),(.int .u32 0),(.int .u32 0),(.int .u32 0),(.int .u32 0),(.int .u32 0),(.int .u32 0),(.int .u32 0),(.int .u32 0),(.int .u32 0),(.int .u32 0),(.int .u32 0),(.int .u32 0),(.int .u32 0),(.int .u32 0),(.int .u32 0),(.int .u32 0),(.int .u32 0),(.int .u32 0),(.int .u32 0),(.int .u32 0),(.int .u32 0),(.int .u32 0),(.int .u32 0),(.int .u32 0),(.int .u32 0),(.int .u32 0),(.int .u32 0),(.int .u32 0),(.int .u32 0),(.int .u32 0),(.int .u32 0),(.int .u32 0),(.int .u32 0),(.int .u32 0),(.int .u32 0),(.int .u32 0),(.int .u32 0),(.int .u32 0),(.int .u32 0),(.int .u32 0),(.int .u32 0),(.int .u32 0),(.int .u32 0),(.int .u32 0),(.int .u32 0),(.int .u32 0)]):=inf_mk (by kernel_rfl)
instance:Many Tryz.prog 157 256:=many_mk trivial Tryz.underlying157 ii
instance:Und Tryz.prog 159 (.int .u32):=⟨Tryz.underlying159⟩
instance:Inf Tryz.prog 168 1 8 (.agg #[(.int .i64 0)]):=inf_mk (by kernel_rfl)
instance:Places Tryz.prog 168 [(0,1)]:=⟨_,Tryz.underlying168,by kernel_rfl⟩
instance:Fld Tryz.prog 168 0 0 29:=fld_mk Tryz.underlying168 (by kernel_rfl) ii (by decide)
instance:Fun Tryz.prog 5:=⟨_,_,Tryz.func5,by decide,rfl⟩
instance:Fun Tryz.prog 6:=⟨_,_,Tryz.func6,by decide,rfl⟩
instance:Fun Tryz.prog 7:=⟨_,_,Tryz.func7,by decide,rfl⟩
instance:Fun Tryz.prog 8:=⟨_,_,Tryz.func8,by decide,rfl⟩
instance:Fun Tryz.prog 9:=⟨_,_,Tryz.func9,by decide,rfl⟩
instance:Fun Tryz.prog 10:=⟨_,_,Tryz.func10,by decide,rfl⟩
instance:Fun Tryz.prog 11:=⟨_,_,Tryz.func11,by decide,rfl⟩
instance:Fun Tryz.prog 12:=⟨_,_,Tryz.func12,by decide,rfl⟩
instance:Fun Tryz.prog 13:=⟨_,_,Tryz.func13,by decide,rfl⟩
instance:Fun Tryz.prog 14:=⟨_,_,Tryz.func14,by decide,rfl⟩
instance:Fun Tryz.prog 15:=⟨_,_,Tryz.func15,by decide,rfl⟩
instance:Fun Tryz.prog 16:=⟨_,_,Tryz.func16,by decide,rfl⟩
instance:Fun Tryz.prog 17:=⟨_,_,Tryz.func17,by decide,rfl⟩
instance:Fun Tryz.prog 18:=⟨_,_,Tryz.func18,by decide,rfl⟩
instance:Fun Tryz.prog 19:=⟨_,_,Tryz.func19,by decide,rfl⟩
instance:Fun Tryz.prog 20:=⟨_,_,Tryz.func20,by decide,rfl⟩
instance:Fun Tryz.prog 21:=⟨_,_,Tryz.func21,by decide,rfl⟩
instance:Fun Tryz.prog 22:=⟨_,_,Tryz.func22,by decide,rfl⟩
instance:Fun Tryz.prog 23:=⟨_,_,Tryz.func23,by decide,rfl⟩
instance:Fun Tryz.prog 24:=⟨_,_,Tryz.func24,by decide,rfl⟩
instance:Fun Tryz.prog 25:=⟨_,_,Tryz.func25,by decide,rfl⟩
instance:Fun Tryz.prog 26:=⟨_,_,Tryz.func26,by decide,rfl⟩
instance:Fun Tryz.prog 27:=⟨_,_,Tryz.func27,by decide,rfl⟩
instance:Fun Tryz.prog 28:=⟨_,_,Tryz.func28,by decide,rfl⟩
instance:Fun Tryz.prog 29:=⟨_,_,Tryz.func29,by decide,rfl⟩
instance:Fun Tryz.prog 30:=⟨_,_,Tryz.func30,by decide,rfl⟩
instance:Fun Tryz.prog 31:=⟨_,_,Tryz.func31,by decide,rfl⟩
instance:Fun Tryz.prog 32:=⟨_,_,Tryz.func32,by decide,rfl⟩
instance:Fun Tryz.prog 33:=⟨_,_,Tryz.func33,by decide,rfl⟩
instance:Fun Tryz.prog 34:=⟨_,_,Tryz.func34,by decide,rfl⟩
instance:Fun Tryz.prog 35:=⟨_,_,Tryz.func35,by decide,rfl⟩
instance:Fun Tryz.prog 36:=⟨_,_,Tryz.func36,by decide,rfl⟩
instance:Fun Tryz.prog 37:=⟨_,_,Tryz.func37,by decide,rfl⟩
instance:Fun Tryz.prog 38:=⟨_,_,Tryz.func38,by decide,rfl⟩
instance:Fun Tryz.prog 39:=⟨_,_,Tryz.func39,by decide,rfl⟩
instance:Fun Tryz.prog 40:=⟨_,_,Tryz.func40,by decide,rfl⟩
instance:Fun Tryz.prog 41:=⟨_,_,Tryz.func41,by decide,rfl⟩
instance:Fun Tryz.prog 42:=⟨_,_,Tryz.func42,by decide,rfl⟩
instance:Fun Tryz.prog 43:=⟨_,_,Tryz.func43,by decide,rfl⟩
instance:Fun Tryz.prog 44:=⟨_,_,Tryz.func44,by decide,rfl⟩
instance:Fun Tryz.prog 45:=⟨_,_,Tryz.func45,by decide,rfl⟩
instance:Fun Tryz.prog 46:=⟨_,_,Tryz.func46,by decide,rfl⟩
instance:Fun Tryz.prog 47:=⟨_,_,Tryz.func47,by decide,rfl⟩
instance:Fun Tryz.prog 48:=⟨_,_,Tryz.func48,by decide,rfl⟩
instance:Fun Tryz.prog 49:=⟨_,_,Tryz.func49,by decide,rfl⟩
instance:Fun Tryz.prog 50:=⟨_,_,Tryz.func50,by decide,rfl⟩
instance:Fun Tryz.prog 51:=⟨_,_,Tryz.func51,by decide,rfl⟩
instance:Fun Tryz.prog 52:=⟨_,_,Tryz.func52,by decide,rfl⟩
instance:Fun Tryz.prog 53:=⟨_,_,Tryz.func53,by decide,rfl⟩
instance:Fun Tryz.prog 54:=⟨_,_,Tryz.func54,by decide,rfl⟩
instance:Fun Tryz.prog 55:=⟨_,_,Tryz.func55,by decide,rfl⟩
instance:Fun Tryz.prog 56:=⟨_,_,Tryz.func56,by decide,rfl⟩
instance:Fun Tryz.prog 57:=⟨_,_,Tryz.func57,by decide,rfl⟩
instance:Fun Tryz.prog 58:=⟨_,_,Tryz.func58,by decide,rfl⟩
instance:Fun Tryz.prog 59:=⟨_,_,Tryz.func59,by decide,rfl⟩
instance:Fun Tryz.prog 60:=⟨_,_,Tryz.func60,by decide,rfl⟩
instance:Fun Tryz.prog 61:=⟨_,_,Tryz.func61,by decide,rfl⟩
instance:Fun Tryz.prog 62:=⟨_,_,Tryz.func62,by decide,rfl⟩
instance:Fun Tryz.prog 63:=⟨_,_,Tryz.func63,by decide,rfl⟩
instance:Fun Tryz.prog 64:=⟨_,_,Tryz.func64,by decide,rfl⟩
instance:Fun Tryz.prog 65:=⟨_,_,Tryz.func65,by decide,rfl⟩
instance:Fun Tryz.prog 66:=⟨_,_,Tryz.func66,by decide,rfl⟩
instance:Fun Tryz.prog 67:=⟨_,_,Tryz.func67,by decide,rfl⟩
instance:Fun Tryz.prog 68:=⟨_,_,Tryz.func68,by decide,rfl⟩
instance:Fun Tryz.prog 69:=⟨_,_,Tryz.func69,by decide,rfl⟩
instance:Fun Tryz.prog 70:=⟨_,_,Tryz.func70,by decide,rfl⟩
instance:Fun Tryz.prog 71:=⟨_,_,Tryz.func71,by decide,rfl⟩
instance:Fun Tryz.prog 72:=⟨_,_,Tryz.func72,by decide,rfl⟩
instance:Fun Tryz.prog 73:=⟨_,_,Tryz.func73,by decide,rfl⟩
instance:Fun Tryz.prog 74:=⟨_,_,Tryz.func74,by decide,rfl⟩
instance:Fun Tryz.prog 75:=⟨_,_,Tryz.func75,by decide,rfl⟩
instance:Fun Tryz.prog 76:=⟨_,_,Tryz.func76,by decide,rfl⟩
instance:Fun Tryz.prog 77:=⟨_,_,Tryz.func77,by decide,rfl⟩
instance:Fun Tryz.prog 78:=⟨_,_,Tryz.func78,by decide,rfl⟩
instance:Fun Tryz.prog 80:=⟨_,_,Tryz.func80,by decide,rfl⟩
instance:Fun Tryz.prog 81:=⟨_,_,Tryz.func81,by decide,rfl⟩
instance:Fun Tryz.prog 82:=⟨_,_,Tryz.func82,by decide,rfl⟩
instance:Fun Tryz.prog 83:=⟨_,_,Tryz.func83,by decide,rfl⟩
instance:Fun Tryz.prog 84:=⟨_,_,Tryz.func84,by decide,rfl⟩
instance:Fun Tryz.prog 85:=⟨_,_,Tryz.func85,by decide,rfl⟩
instance:Fun Tryz.prog 86:=⟨_,_,Tryz.func86,by decide,rfl⟩
instance:Fun Tryz.prog 87:=⟨_,_,Tryz.func87,by decide,rfl⟩
instance:Fun Tryz.prog 88:=⟨_,_,Tryz.func88,by decide,rfl⟩
instance:Fun Tryz.prog 89:=⟨_,_,Tryz.func89,by decide,rfl⟩
instance:Fun Tryz.prog 90:=⟨_,_,Tryz.func90,by decide,rfl⟩
instance:Fun Tryz.prog 91:=⟨_,_,Tryz.func91,by decide,rfl⟩
instance:Fun Tryz.prog 92:=⟨_,_,Tryz.func92,by decide,rfl⟩
instance:Fun Tryz.prog 93:=⟨_,_,Tryz.func93,by decide,rfl⟩
instance:Fun Tryz.prog 94:=⟨_,_,Tryz.func94,by decide,rfl⟩
instance:Fun Tryz.prog 95:=⟨_,_,Tryz.func95,by decide,rfl⟩
instance:Fun Tryz.prog 96:=⟨_,_,Tryz.func96,by decide,rfl⟩
instance:Fun Tryz.prog 97:=⟨_,_,Tryz.func97,by decide,rfl⟩
instance:Fun Tryz.prog 98:=⟨_,_,Tryz.func98,by decide,rfl⟩
instance:Fun Tryz.prog 99:=⟨_,_,Tryz.func99,by decide,rfl⟩
instance:Fun Tryz.prog 100:=⟨_,_,Tryz.func100,by decide,rfl⟩
instance:Fun Tryz.prog 101:=⟨_,_,Tryz.func101,by decide,rfl⟩
instance:Fun Tryz.prog 102:=⟨_,_,Tryz.func102,by decide,rfl⟩
instance:Fun Tryz.prog 103:=⟨_,_,Tryz.func103,by decide,rfl⟩
instance:Fun Tryz.prog 104:=⟨_,_,Tryz.func104,by decide,rfl⟩
instance:Fun Tryz.prog 105:=⟨_,_,Tryz.func105,by decide,rfl⟩
instance:Fun Tryz.prog 106:=⟨_,_,Tryz.func106,by decide,rfl⟩
instance:Fun Tryz.prog 107:=⟨_,_,Tryz.func107,by decide,rfl⟩
instance:Fun Tryz.prog 108:=⟨_,_,Tryz.func108,by decide,rfl⟩
instance:Fun Tryz.prog 109:=⟨_,_,Tryz.func109,by decide,rfl⟩
instance:Fun Tryz.prog 110:=⟨_,_,Tryz.func110,by decide,rfl⟩
instance:Fun Tryz.prog 111:=⟨_,_,Tryz.func111,by decide,rfl⟩
instance:Fun Tryz.prog 112:=⟨_,_,Tryz.func112,by decide,rfl⟩
instance:Fun Tryz.prog 113:=⟨_,_,Tryz.func113,by decide,rfl⟩
instance:Fun Tryz.prog 114:=⟨_,_,Tryz.func114,by decide,rfl⟩
instance:Fun Tryz.prog 115:=⟨_,_,Tryz.func115,by decide,rfl⟩
instance:Fun Tryz.prog 116:=⟨_,_,Tryz.func116,by decide,rfl⟩
instance:Fun Tryz.prog 119:=⟨_,_,Tryz.func119,by decide,rfl⟩
instance:Fun Tryz.prog 120:=⟨_,_,Tryz.func120,by decide,rfl⟩
instance:Fun Tryz.prog 121:=⟨_,_,Tryz.func121,by decide,rfl⟩
instance:Fun Tryz.prog 122:=⟨_,_,Tryz.func122,by decide,rfl⟩
instance:Fun Tryz.prog 123:=⟨_,_,Tryz.func123,by decide,rfl⟩
instance:Fun Tryz.prog 124:=⟨_,_,Tryz.func124,by decide,rfl⟩
end Go.Proofs.YtigmfcgeljjgnaaGreat
namespace Go.Wst.Dm
open Go Go.Wst
abbrev Bs:=List UInt8
abbrev Fs:=List (ByteArray×Bs)
def blt (a b:ByteArray):Prop:=a.toList<b.toList
instance (a b:ByteArray):Decidable (blt a b):=inferInstanceAs (Decidable (a.toList<b.toList))
theorem toList_inj {a b:ByteArray} (h:a.toList=b.toList):a=b:=ByteArray.ext (by have:=congrArg List.toArray h;simpa [ByteArray.toList_eq] using this)
theorem blt_irrefl (a:ByteArray):¬ blt a a:=List.lt_irrefl _
theorem blt_trans {a b c:ByteArray} (h:blt a b) (h':blt b c):blt a c:=List.lt_trans h h'
theorem blt_ne {a b:ByteArray} (h:blt a b):a≠b:=fun e=>blt_irrefl b (e ▸ h)
theorem blt_asymm {a b:ByteArray} (h:blt a b):¬ blt b a:=fun h'=>blt_irrefl a (blt_trans h h')
theorem blt_or {a b:ByteArray} (h:¬ blt a b) (hn:a≠b):blt b a:=by
  rcases List.le_iff_lt_or_eq.1 (List.not_lt.1 h) with h | h
  · exact h
  exact absurd (toList_inj h.symm) hn
structure Thing where
  what:Int
  name:ByteArray
  bytes:Bs
  n:Int
def Thing.of (t:Thing) (f:ByteArray×Bs):Fs:=if t.what=0 then [(f.1,f.2++t.bytes)] else if t.what=1 then [(f.1,f.2.take t.n.toNat)] else if t.what=2 then [] else [f]
def doneL (t:Thing):Fs->Bool->Fs
  | [],there=>if there=false/\t.what=0 then [(t.name,t.bytes)] else []
  | f :: l,there=>
    (if there=false/\t.what=0/\blt t.name f.1 then [(t.name,t.bytes)] else []) ++
    (if f.1=t.name then t.of f else [f]) ++
    doneL t l (there || decide (t.what=0/\blt t.name f.1) || decide (f.1=t.name))
def done (l:Fs) (t:Thing):Fs:=doneL t l false
def doneM (l:Fs) (t:Thing):Fs:=
  if t.what=0 then aput l t.name ((akey l t.name).getD []++t.bytes) else if t.what=1 then aput l t.name (((akey l t.name).getD []).take t.n.toNat) else adel l t.name
def usedB (l:Fs):Nat:=(l.map (fun f=>f.2.length)).sum
def Rise (l:Fs):Prop:=(l.map (·.1)).Pairwise blt
theorem Rise.nodup {l:Fs} (h:Rise l):(l.map (·.1)).Nodup:=List.Pairwise.imp (fun h=>blt_ne h) h
theorem Rise.cons {f:ByteArray×Bs} {l:Fs}:Rise (f :: l)↔(∀ g∈l,blt f.1 g.1)/\Rise l:=by
  simp [Rise,List.pairwise_cons]
def Thing.look (t:Thing) (o:Option Bs):Option Bs:=if t.what=0 then some (o.getD []++t.bytes) else if t.what=1 then o.map (·.take t.n.toNat) else none
theorem akey_cons {α:Type} (p:ByteArray×α) (l:List (ByteArray×α)) (k:ByteArray):akey (p :: l) k=if p.1=k then some p.2 else akey l k:=by
  simp only [akey,List.find?_cons]
  by_cases h:p.1=k<;>simp [h]
theorem akey_append {α:Type} (l l':List (ByteArray×α)) (k:ByteArray):akey (l++l') k=(akey l k).or (akey l' k):=by
  induction l with
  | nil=>simp [akey]
  | cons p l ih=>rw [List.cons_append,akey_cons,akey_cons,ih];split<;>simp
theorem akey_none {α:Type} {l:List (ByteArray×α)} {k:ByteArray}:akey l k=none↔∀ p∈l,p.1≠k:=by
  simp [akey,List.find?_eq_none]
theorem akey_mem {α:Type} {l:List (ByteArray×α)} (hn:(l.map (·.1)).Nodup) {k:ByteArray} {v:α}:akey l k=some v↔(k,v)∈l:=by
  induction l with
  | nil=>simp [akey]
  | cons p l ih=>
    simp only [List.map_cons,List.nodup_cons] at hn
    rw [akey_cons,List.mem_cons,<- ih hn.2]
    split
    · next h=>
      subst h
      constructor
      · intro h;simp at h;exact .inl (by rw [<- h])
      rintro (h | h)
      · rw [<- h]
      exact absurd (List.mem_map.2 ⟨_,(ih hn.2).1 h,rfl⟩) hn.1
    next h=>
    constructor
    · exact .inr
    rintro (h' | h')
    · exact absurd (by rw [<- h']) h
    exact h'
theorem akey_aput {α:Type} (l:List (ByteArray×α)) (k j:ByteArray) (v:α):akey (aput l k v) j=if k=j then some v else akey l j:=by
  unfold aput
  split
  · next h=>
    have key:∀ l:List (ByteArray×α),l.any (fun p=>decide (p.1=k))=true->akey (l.map (fun p=>if p.1=k then (k,v) else p)) j=if k=j then some v else akey l j:=by
      intro l
      induction l with
      | nil=>simp
      | cons p l ih=>
        intro h
        rw [List.map_cons,akey_cons,akey_cons]
        by_cases hp:p.1=k
        · rw [if_pos hp]
          by_cases hj:k=j
          · simp [hj]
          have:¬ p.1=j:=fun e=>hj (hp.symm.trans e)
          simp only [hj,this,if_false]
          clear ih h
          induction l with
          | nil=>simp [akey]
          | cons q l ih=>
            rw [List.map_cons,akey_cons,akey_cons,ih]
            by_cases hq:q.1=k
            · have:¬ q.1=j:=fun e=>hj (hq.symm.trans e)
              simp [hq,hj]
            simp [hq]
        rw [if_neg hp]
        have h':l.any (fun p=>decide (p.1=k))=true:=by simpa [hp] using h
        rw [ih h']
        by_cases hj:p.1=j
        · have:¬ k=j:=fun e=>hp (hj.trans e.symm)
          simp [hj,this]
        simp [hj]
    exact key l h
  next h=>
  rw [akey_append,akey_cons]
  by_cases hj:k=j
  · subst hj
    have:akey l k=none:=akey_none.2 (fun p hp e=>h (List.any_eq_true.2 ⟨p,hp,by simp [e]⟩))
    simp [this]
  simp [hj,akey]
theorem akey_adel {α:Type} (l:List (ByteArray×α)) (k j:ByteArray):akey (adel l k) j=if k=j then none else akey l j:=by
  unfold adel
  induction l with
  | nil=>simp [akey]
  | cons p l ih=>
    rw [List.filter_cons]
    by_cases hp:p.1=k
    · simp only [hp,decide_true,Bool.not_true,Bool.false_eq_true,if_false]
      rw [ih,akey_cons]
      by_cases hj:k=j
      · simp [hj]
      have:¬ p.1=j:=fun e=>hj (hp.symm.trans e)
      simp [hj,this]
    simp only [hp,decide_false,Bool.not_false,if_true]
    rw [akey_cons,akey_cons,ih]
    by_cases hj:p.1=j
    · have:¬ k=j:=fun e=>hp (hj.trans e.symm)
      simp [hj,this]
    simp [hj]
structure Alike (K L:Fs):Prop where
  nd:(K.map (·.1)).Nodup
  rise:Rise L
  eq:∀ k,akey K k=akey L k
theorem Alike.perm {K L:Fs} (h:Alike K L):K.Perm L:=by
  have hK:K.Nodup:=List.Pairwise.of_map (fun p:ByteArray×Bs=>p.1) (fun a b h e=>h (congrArg _ e)) h.nd
  have hL:L.Nodup:=List.Pairwise.of_map (fun p:ByteArray×Bs=>p.1) (fun a b h e=>h (congrArg _ e)) h.rise.nodup
  rw [List.perm_ext_iff_of_nodup hK hL]
  rintro ⟨k,v⟩
  rw [<- akey_mem h.nd,<- akey_mem h.rise.nodup,h.eq]
theorem Alike.used {K L:Fs} (h:Alike K L):usedB K=usedB L:=(h.perm.map _).sum_nat
theorem Alike.len {K L:Fs} (h:Alike K L):K.length=L.length:=h.perm.length_eq
theorem Alike.nil:Alike [] []:=⟨by simp,by simp [Rise],fun _=>rfl⟩
theorem doneL_rest (t:Thing):∀ (l:Fs) (there:Bool),(∀ f∈l,f.1≠t.name)->there=true\/t.what≠0->doneL t l there=l
  | [],there,_,h=>by
    rw [doneL,if_neg]
    rintro ⟨h1,h2⟩
    rcases h with h | h
    · rw [h1] at h;cases h
    exact h h2
  | f :: l,there,hf,h=>by
    have hn:¬ (there=false/\t.what=0/\blt t.name f.1):=by
      rintro ⟨h1,h2,_⟩
      rcases h with h | h
      · rw [h1] at h;cases h
      exact h h2
    have hf1:¬ f.1=t.name:=hf f (List.mem_cons_self ..)
    rw [doneL,if_neg hn,if_neg hf1,doneL_rest t l _ (fun g hg=>hf g (List.mem_cons_of_mem _ hg))]
    · rfl
    rcases h with h | h
    · exact .inl (by simp [h])
    exact .inr h
theorem doneL_other (t:Thing) (k:ByteArray) (hk:k≠t.name):∀ (l:Fs) (there:Bool),akey (doneL t l there) k=akey l k
  | [],there=>by
    rw [doneL]
    split
    · rw [akey_cons,if_neg (fun e=>hk e.symm)]
    rfl
  | f :: l,there=>by
    rw [doneL,akey_append,akey_append,doneL_other t k hk l,akey_cons]
    have h1:akey (if there=false/\t.what=0/\blt t.name f.1 then [(t.name,t.bytes)] else []) k=none:=by
      split
      · rw [akey_cons,if_neg (fun e=>hk e.symm)];rfl
      rfl
    rw [h1,Option.none_or]
    by_cases hf:f.1=t.name
    · have hfk:¬ f.1=k:=fun e=>hk (e.symm.trans hf)
      rw [if_pos hf,if_neg hfk]
      have h2:akey (t.of f) k=none:=by
        unfold Thing.of
        split
        · rw [akey_cons,if_neg hfk];rfl
        split
        · rw [akey_cons,if_neg hfk];rfl
        split
        · rfl
        rw [akey_cons,if_neg hfk];rfl
      rw [h2,Option.none_or]
    rw [if_neg hf,akey_cons]
    split<;>simp [akey]
def okWhat (t:Thing):Prop:=t.what=0\/t.what=1\/t.what=2
theorem doneL_name (t:Thing) (hw:okWhat t):∀ (l:Fs),Rise l->akey (doneL t l false) t.name=t.look (akey l t.name)
  | [],_=>by
    rw [doneL]
    rcases hw with h | h | h<;>simp [h,Thing.look,akey]
  | f :: l,hr=>by
    obtain ⟨hr1,hr2⟩:=Rise.cons.1 hr
    rw [doneL,akey_append,akey_append,akey_cons]
    by_cases hf:f.1=t.name
    · have hb:¬ blt t.name f.1:=hf ▸ blt_irrefl _
      have hrest:∀ g∈l,g.1≠t.name:=fun g hg e=>blt_ne (hr1 g hg) (hf.trans e.symm)
      rw [if_neg (fun h=>hb h.2.2),if_pos hf,if_pos hf,doneL_rest t l _ hrest (.inl (by simp [hf]))]
      have hl:akey l t.name=none:=akey_none.2 hrest
      rw [hl]
      rcases hw with h | h | h<;>simp [h,Thing.of,Thing.look,akey_cons,hf,akey]
    rw [if_neg hf,if_neg hf,akey_cons,if_neg hf]
    by_cases hb:t.what=0/\blt t.name f.1
    · have hrest:∀ g∈l,g.1≠t.name:=fun g hg e=>blt_asymm hb.2 (e ▸ hr1 g hg)
      rw [if_pos ⟨rfl,hb⟩,akey_none.2 hrest]
      simp [akey_cons,Thing.look,hb.1]
    rw [if_neg (fun h=>hb h.2),show ((false || decide (t.what=0/\blt t.name f.1)) || decide (f.1=t.name))=false by simp [hb,hf],doneL_name t hw l hr2]
    simp [akey]
theorem akey_done {t:Thing} {l:Fs} (hw:okWhat t) (hr:Rise l) (k:ByteArray):akey (done l t) k=if k=t.name then t.look (akey l t.name) else akey l k:=by
  split
  · next h=>subst h;exact doneL_name t hw l hr
  next h=>exact doneL_other t k h l false
theorem doneL_keys (t:Thing):∀ (l:Fs) (there:Bool) (f:ByteArray×Bs),f∈doneL t l there->f.1=t.name\/f.1∈l.map (·.1)
  | [],there,f,h=>by
    rw [doneL] at h
    split at h
    · simp at h;exact .inl (by rw [h])
    cases h
  | g :: l,there,f,h=>by
    rw [doneL,List.mem_append,List.mem_append] at h
    rcases h with (h | h) | h
    · split at h
      · simp at h;exact .inl (by rw [h])
      cases h
    · split at h
      · next hg=>
        have:f.1=g.1:=by
          unfold Thing.of at h
          split at h
          · simp at h;rw [h]
          split at h
          · simp at h;rw [h]
          split at h
          · cases h
          simp at h;rw [h]
        exact .inl (this.trans hg)
      simp at h;exact .inr (by simp [h])
    rcases doneL_keys t l _ f h with h | h
    · exact .inl h
    exact .inr (by simp only [List.map_cons,List.mem_cons];exact .inr h)
theorem of_key (t:Thing) (g f:ByteArray×Bs) (h:f∈t.of g):f.1=g.1:=by
  unfold Thing.of at h
  split at h
  · simp at h;rw [h]
  split at h
  · simp at h;rw [h]
  split at h
  · cases h
  simp at h;rw [h]
theorem of_rise (t:Thing) (g:ByteArray×Bs):Rise (t.of g):=by
  unfold Thing.of
  split
  · simp [Rise]
  split
  · simp [Rise]
  split
  · simp [Rise]
  simp [Rise]
theorem Rise.append {a b:Fs}:Rise (a++b)↔Rise a/\Rise b/\∀ f∈a,∀ g∈b,blt f.1 g.1:=by
  simp only [Rise,List.map_append,List.pairwise_append,List.mem_map]
  constructor
  · rintro ⟨h1,h2,h3⟩
    exact ⟨h1,h2,fun f hf g hg=>h3 _ ⟨f,hf,rfl⟩ _ ⟨g,hg,rfl⟩⟩
  rintro ⟨h1,h2,h3⟩
  exact ⟨h1,h2,by rintro _ ⟨f,hf,rfl⟩ _ ⟨g,hg,rfl⟩;exact h3 f hf g hg⟩
theorem done_rise (t:Thing):∀ (l:Fs),Rise l->Rise (doneL t l false)
  | [],_=>by
    rw [doneL]
    split<;>simp [Rise]
  | f :: l,hr=>by
    obtain ⟨hr1,hr2⟩:=Rise.cons.1 hr
    rw [doneL]
    by_cases hf:f.1=t.name
    · have hb:¬ blt t.name f.1:=hf ▸ blt_irrefl _
      have hrest:∀ g∈l,g.1≠t.name:=fun g hg e=>blt_ne (hr1 g hg) (hf.trans e.symm)
      rw [if_neg (fun h=>hb h.2.2),if_pos hf,doneL_rest t l _ hrest (.inl (by simp [hf])),List.nil_append,Rise.append]
      exact ⟨of_rise t f,hr2,fun g hg k hk=>of_key t f g hg ▸ hr1 k hk⟩
    rw [if_neg hf]
    by_cases hb:t.what=0/\blt t.name f.1
    · have hrest:∀ g∈l,g.1≠t.name:=fun g hg e=>blt_asymm hb.2 (e ▸ hr1 g hg)
      rw [if_pos ⟨rfl,hb⟩,doneL_rest t l _ hrest (.inl (by simp [hb]))]
      simp only [List.singleton_append,List.cons_append,List.nil_append]
      refine Rise.cons.2 ⟨fun g hg=>?_,hr⟩
      rcases List.mem_cons.1 hg with h | h
      · rw [h];exact hb.2
      exact blt_trans hb.2 (hr1 g h)
    rw [if_neg (fun h=>hb h.2),show ((false || decide (t.what=0/\blt t.name f.1)) || decide (f.1=t.name))=false by simp [hb,hf],List.nil_append,List.singleton_append]
    by_cases h0:t.what=0
    · refine Rise.cons.2 ⟨fun g hg=>?_,done_rise t l hr2⟩
      rcases doneL_keys t l false g hg with h | h
      · rw [h]
        exact blt_or (fun h'=>hb ⟨h0,h'⟩) (fun e=>hf e.symm)
      obtain ⟨g',hg',e⟩:=List.mem_map.1 h
      exact e ▸ hr1 g' hg'
    refine Rise.cons.2 ⟨fun g hg=>?_,done_rise t l hr2⟩
    have:∀ (l:Fs) (b:Bool) (g:ByteArray×Bs),g∈doneL t l b->g.1∈l.map (·.1):=by
      intro l
      induction l with
      | nil=>intro b g hg;rw [doneL,if_neg (fun h=>h0 h.2)] at hg;cases hg
      | cons x l ih=>
        intro b g hg
        rw [doneL,if_neg (fun h=>h0 h.2.1),List.nil_append,List.mem_append] at hg
        rcases hg with hg | hg
        · split at hg
          · exact List.mem_cons.2 (.inl (of_key t x g hg))
          simp at hg;simp [hg]
        exact List.mem_cons_of_mem _ (ih _ g hg)
    obtain ⟨g',hg',e⟩:=List.mem_map.1 (this l _ g hg)
    exact e ▸ hr1 g' hg'
theorem nodup_adel {α:Type} {l:List (ByteArray×α)} {k:ByteArray} (h:(l.map (·.1)).Nodup):((adel l k).map (·.1)).Nodup:=by
  unfold adel
  exact List.Nodup.sublist (List.Sublist.map _ List.filter_sublist) h
theorem Alike.done {K L:Fs} (h:Alike K L) {t:Thing} (hw:okWhat t) (h1:t.what=1->(akey L t.name).isSome):Alike (doneM K t) (done L t):=by
  refine ⟨?_,done_rise t L h.rise,fun k=>?_⟩
  · unfold doneM
    split
    · exact nodup_aput h.nd
    split
    · exact nodup_aput h.nd
    exact nodup_adel h.nd
  rw [akey_done hw h.rise]
  unfold doneM
  rcases hw with e | e | e
  · rw [if_pos e,akey_aput]
    by_cases hk:k=t.name
    · rw [if_pos hk.symm,if_pos hk,Thing.look,if_pos e,h.eq]
    rw [if_neg (fun e=>hk e.symm),if_neg hk,h.eq]
  · rw [if_neg (by omega),if_pos e,akey_aput]
    by_cases hk:k=t.name
    · rw [if_pos hk.symm,if_pos hk,Thing.look,if_neg (by omega),if_pos e,h.eq]
      obtain ⟨b,hb⟩:=Option.isSome_iff_exists.1 (h1 e)
      simp [hb]
    rw [if_neg (fun e=>hk e.symm),if_neg hk,h.eq]
  rw [if_neg (by omega),if_neg (by omega),akey_adel]
  by_cases hk:k=t.name
  · rw [if_pos hk.symm,if_pos hk,Thing.look,if_neg (by omega),if_neg (by omega)]
  rw [if_neg (fun e=>hk e.symm),if_neg hk,h.eq]
structure Disk where
  room:Int
  lasts:Fs
  waits:List Thing
def byteOk (c:UInt8):Bool:=(97<=c.toNat && c.toNat<=122) || (48<=c.toNat && c.toNat<=57) || c.toNat == 46
def nameOk (s:ByteArray):Bool:=decide (1<=s.toList.length) && decide (s.toList.length<=24) && s.toList.all byteOk
def Disk.files (d:Disk):Fs:=d.waits.foldl done d.lasts
def okT (room:Int) (l:Fs) (t:Thing):Prop:=
  nameOk t.name=true/\(t.what=0/\(t.bytes.length:Int)+usedB l<=room\/t.what=1/\(∃ b,akey l t.name=some b/\0<=t.n/\t.n<=b.length)\/t.what=2/\(akey l t.name).isSome=true)
theorem okT.what {room:Int} {l:Fs} {t:Thing} (h:okT room l t):okWhat t:=by
  rcases h.2 with h | h | h
  · exact .inl h.1
  · exact .inr (.inl h.1)
  exact .inr (.inr h.1)
theorem okT.there {room:Int} {l:Fs} {t:Thing} (h:okT room l t):t.what=1->(akey l t.name).isSome:=by
  intro h1
  rcases h.2 with h | h | h
  · omega
  · obtain ⟨_,b,hb,_⟩:=h;simp [hb]
  omega
def Good (room:Int):Fs->List Thing->Prop
  | l,[]=>(usedB l:Int)<=room
  | l,t :: ts=>(usedB l:Int)<=room/\okT room l t/\Good room (done l t) ts
structure Disk.ok (d:Disk):Prop where
  one:1<=d.room
  most:d.room<=16777216
  rise:Rise d.lasts
  names:∀ f∈d.lasts,nameOk f.1=true
  good:Good d.room d.lasts d.waits
def Disk.doNo (d:Disk) (t:Thing):Int:=
  if nameOk t.name=false then 130 else if t.what≠0/\akey d.files t.name=none then 5
  else if t.what=1/\(t.n<0\/((akey d.files t.name).getD []).length<t.n) then 4
  else if t.what=0/\d.room - usedB d.files<t.bytes.length then 131 else 0
def Disk.does (d:Disk) (t:Thing):Disk:=if d.doNo t=0 then ⟨d.room,d.lasts,d.waits++[t]⟩ else d
def Disk.flush (d:Disk):Disk:=⟨d.room,d.files,[]⟩
def pickN (k:Int) (n:Nat):Nat:=(if k.tmod (n+1)<0 then k.tmod (n+1)+(n+1) else k.tmod (n+1)).toNat
def tornT (t:Thing) (n:Nat):Thing:=⟨t.what,t.name,t.bytes.take n,t.n⟩
def Disk.crash (d:Disk) (keep torn:Int):Disk:=
  let k:=pickN keep d.waits.length
  let l:=(d.waits.take k).foldl done d.lasts
  match d.waits[k]? with
  | none=>⟨d.room,l,[]⟩
  | some t=>if t.what=0/\0<pickN torn t.bytes.length then ⟨d.room,done l (tornT t (pickN torn t.bytes.length)),[]⟩ else ⟨d.room,l,[]⟩
theorem pickN_le (k:Int) (n:Nat):pickN k n<=n:=by
  unfold pickN
  have h1:-((n:Int)+1)<k.tmod (n+1):=Int.lt_tmod_of_pos k (by omega)
  have h2:k.tmod (n+1)<(n:Int)+1:=Int.tmod_lt_of_pos k (by omega)
  split<;>omega
theorem Good.used {room:Int}:∀ {l:Fs} {ts:List Thing},Good room l ts->(usedB l:Int)<=room
  | _,[],h=>h
  | _,_ :: _,h=>h.1
theorem Good.take {room:Int}:∀ {l:Fs} {ts:List Thing} (k:Nat),Good room l ts->Good room l (ts.take k)
  | _,[],k,h=>by simpa using h
  | _,t :: ts,0,h=>h.1
  | _,t :: ts,k+1,h=>⟨h.1,h.2.1,Good.take k h.2.2⟩
theorem Good.fold {room:Int}:∀ {l:Fs} {ts:List Thing},Good room l ts->(usedB (ts.foldl done l):Int)<=room
  | _,[],h=>h
  | _,t :: ts,h=>Good.fold (l:=done _ t) h.2.2
theorem Good.rise {room:Int}:∀ {l:Fs} {ts:List Thing},Good room l ts->Rise l->Rise (ts.foldl done l)
  | _,[],_,hr=>hr
  | _,t :: ts,h,hr=>Good.rise (l:=done _ t) h.2.2 (done_rise t _ hr)
theorem Good.snoc {room:Int}:∀ {l:Fs} {ts:List Thing} {t:Thing},Good room l ts->okT room (ts.foldl done l) t->(usedB (done (ts.foldl done l) t):Int)<=room->Good room l (ts++[t])
  | _,[],t,h,h1,h2=>⟨h,h1,h2⟩
  | _,u :: ts,t,h,h1,h2=>⟨h.1,h.2.1,Good.snoc h.2.2 h1 h2⟩
theorem Good.at_ {room:Int}:∀ {l:Fs} {ts:List Thing} (k:Nat) (hk:k<ts.length),Good room l ts->okT room ((ts.take k).foldl done l) ts[k]
  | _,[],k,hk,_=>by simp at hk
  | _,t :: ts,0,_,h=>h.2.1
  | _,t :: ts,k+1,hk,h=>by
    have:=Good.at_ k (by simpa using hk) h.2.2
    simpa using this
theorem done_names {l:Fs} {t:Thing} (h:∀ f∈l,nameOk f.1=true) (ht:nameOk t.name=true):∀ f∈done l t,nameOk f.1=true:=by
  intro f hf
  rcases doneL_keys t l false f hf with e | e
  · rw [e];exact ht
  obtain ⟨g,hg,e⟩:=List.mem_map.1 e
  rw [<- e];exact h g hg
theorem Good.names {room:Int}:∀ {l:Fs} {ts:List Thing},Good room l ts->(∀ f∈l,nameOk f.1=true)->∀ f∈ts.foldl done l,nameOk f.1=true
  | _,[],_,hn=>hn
  | _,t :: ts,h,hn=>Good.names (l:=done _ t) h.2.2 (done_names hn h.2.1.1)
theorem used_other (l l':Fs) (k:ByteArray) (h:Rise l) (h':Rise l') (he:∀ j,j≠k->akey l j=akey l' j):usedB l+((akey l' k).getD []).length=usedB l'+((akey l k).getD []).length:=by
  have key:∀ l:Fs,Rise l->usedB l=usedB (adel l k)+((akey l k).getD []).length:=by
    intro l
    induction l with
    | nil=>intro _;simp [usedB,adel,akey]
    | cons f l ih=>
      intro hr
      obtain ⟨h1,h2⟩:=Rise.cons.1 hr
      rw [akey_cons]
      by_cases hf:f.1=k
      · have hn:∀ g∈l,¬ g.1=k:=fun g hg e=>blt_ne (h1 g hg) (hf.trans e.symm)
        have hd:adel (f :: l) k=l:=by
          unfold adel
          rw [List.filter_cons,if_neg (by simp [hf]),List.filter_eq_self]
          intro g hg
          simp [hn g hg]
        rw [hd,if_pos hf]
        simp [usedB];omega
      have hd:adel (f :: l) k=f :: adel l k:=by
        unfold adel
        rw [List.filter_cons,if_pos (by simp [hf])]
      have:=ih h2
      rw [hd,if_neg hf]
      simp only [usedB,List.map_cons,List.sum_cons] at this ⊢
      omega
  have rd:∀ l:Fs,Rise l->Rise (adel l k):=fun l hl=>List.Pairwise.sublist (List.Sublist.map _ List.filter_sublist) hl
  have ha:Alike (adel l k) (adel l' k):=⟨(rd l h).nodup,rd l' h',fun j=>by
    rw [akey_adel,akey_adel]
    by_cases hj:k=j
    · rw [if_pos hj,if_pos hj]
    rw [if_neg hj,if_neg hj,he j (fun e=>hj e.symm)]⟩
  have:=ha.used
  have:=key l h
  have:=key l' h'
  omega
theorem used_done {l:Fs} {t:Thing} (hr:Rise l) (hw:okWhat t):usedB (done l t)+((akey l t.name).getD []).length=usedB l+((t.look (akey l t.name)).getD []).length:=by
  have h:=used_other (done l t) l t.name (done_rise t l hr) hr (fun j hj=>by rw [akey_done hw hr,if_neg hj])
  rw [akey_done hw hr,if_pos rfl] at h
  exact h
theorem okT.used {room:Int} {l:Fs} {t:Thing} (h:okT room l t) (hr:Rise l) (hu:(usedB l:Int)<=room):(usedB (done l t):Int)<=room:=by
  have h1:=used_done hr h.what
  rcases h.2 with ⟨e,h2⟩ | ⟨e,b,hb,h2,h3⟩ | ⟨e,h2⟩
  · rw [Thing.look,if_pos e] at h1
    simp at h1
    omega
  · rw [Thing.look,if_neg (by omega),if_pos e,hb] at h1
    simp at h1
    omega
  rw [Thing.look,if_neg (by omega),if_neg (by omega)] at h1
  simp at h1
  omega
theorem tornT_ok {room:Int} {l:Fs} {t:Thing} {n:Nat} (h:okT room l t) (h0:t.what=0) (hn:n<=t.bytes.length):okT room l (tornT t n):=by
  refine ⟨h.1,.inl ⟨h0,?_⟩⟩
  rcases h.2 with ⟨e,h2⟩ | ⟨e,_⟩ | ⟨e,_⟩
  · simp [tornT];omega
  · omega
  omega
theorem Disk.ok.files {d:Disk} (h:d.ok):Rise d.files/\(usedB d.files:Int)<=d.room/\∀ f∈d.files,nameOk f.1=true:=⟨h.good.rise h.rise,h.good.fold,h.good.names h.names⟩
theorem Disk.ok.flush {d:Disk} (h:d.ok):d.flush.ok:=⟨h.one,h.most,h.files.1,h.files.2.2,h.files.2.1⟩
theorem Disk.doNo_ok {d:Disk} {t:Thing} (hw:okWhat t) (h:d.doNo t=0):okT d.room d.files t:=by
  unfold Disk.doNo at h
  split at h
  · omega
  next h1=>
  split at h
  · omega
  next h2=>
  split at h
  · omega
  next h3=>
  split at h
  · omega
  next h4=>
  refine ⟨by simpa using h1,?_⟩
  rcases hw with e | e | e
  · exact .inl ⟨e,by
      have:¬ d.room - usedB d.files<t.bytes.length:=fun h=>h4 ⟨e,h⟩
      omega⟩
  · refine .inr (.inl ⟨e,?_⟩)
    cases hb:akey d.files t.name with
    | none=>exact absurd ⟨by omega,hb⟩ h2
    | some b=>
      refine ⟨b,rfl,?_⟩
      have:¬ (t.n<0\/(b.length:Int)<t.n):=fun h=>h3 ⟨e,by simpa [hb] using h⟩
      omega
  refine .inr (.inr ⟨e,?_⟩)
  cases hb:akey d.files t.name with
  | none=>exact absurd ⟨by omega,hb⟩ h2
  | some b=>rfl
theorem Disk.ok.snoc {d:Disk} (h:d.ok) {t:Thing} (ht:okT d.room d.files t):Disk.ok ⟨d.room,d.lasts,d.waits++[t]⟩:=⟨h.one,h.most,h.rise,h.names,h.good.snoc ht (ht.used h.files.1 h.files.2.1)⟩
theorem files_snoc (d:Disk) (t:Thing):Disk.files ⟨d.room,d.lasts,d.waits++[t]⟩=done d.files t:=by
  rw [Disk.files,List.foldl_append]
  rfl
theorem doneM_torn (l:Fs) (t:Thing) (n:Nat) (h:t.what=0->t.bytes.length<=n):doneM l (tornT t n)=doneM l t:=by
  unfold doneM tornT
  by_cases h0:t.what=0
  · simp only [h0,if_true]
    rw [List.take_of_length_le (h h0)]
  simp only [h0,if_false]
theorem okT.len {room:Int} {l:Fs} {t:Thing} (h:okT room l t) (hr:room<=16777216) (h0:t.what=0):t.bytes.length<=16777216:=by
  rcases h.2 with ⟨e,h2⟩ | ⟨e,_⟩ | ⟨e,_⟩<;>omega
theorem Disk.ok.does {d:Disk} (h:d.ok) {t:Thing} (hw:okWhat t):(d.does t).ok:=by
  unfold Disk.does
  split
  · next h0=>
    have ht:=Disk.doNo_ok hw h0
    exact ⟨h.one,h.most,h.rise,h.names,h.good.snoc ht (ht.used h.files.1 h.files.2.1)⟩
  exact h
theorem foldl_snoc {d:Disk} {t:Thing} (h0:d.doNo t=0):(d.does t).files=done d.files t:=by
  rw [Disk.does,if_pos h0,Disk.files,List.foldl_append]
  rfl
theorem Disk.ok.crash {d:Disk} (h:d.ok) (keep torn:Int):(d.crash keep torn).ok:=by
  have hg:=h.good.take (pickN keep d.waits.length)
  have base:Disk.ok ⟨d.room,(d.waits.take (pickN keep d.waits.length)).foldl done d.lasts,[]⟩:=⟨h.one,h.most,hg.rise h.rise,hg.names h.names,hg.fold⟩
  unfold Disk.crash
  dsimp only
  split
  · exact base
  next t ht=>
  split
  · next h2=>
    obtain ⟨hk,e⟩:=List.getElem?_eq_some_iff.1 ht
    have h3:=e ▸ h.good.at_ _ hk
    have h4:=tornT_ok (n:=pickN torn t.bytes.length) h3 h2.1 (pickN_le _ _)
    exact ⟨h.one,h.most,done_rise _ _ base.rise,done_names base.names h4.1,h4.used base.rise base.good⟩
  exact base
theorem of_len (t:Thing) (f:ByteArray×Bs):(t.of f).length<=1:=by
  unfold Thing.of
  split
  · simp
  split
  · simp
  split
  · simp
  simp
theorem doneL_len (t:Thing):∀ (l:Fs) (there:Bool),(doneL t l there).length<=l.length+(if there then 0 else 1)
  | [],there=>by
    rw [doneL]
    cases there<;>simp
    split<;>simp
  | f :: l,there=>by
    rw [doneL,List.length_append,List.length_append]
    have h1:=doneL_len t l (there || decide (t.what=0/\blt t.name f.1) || decide (f.1=t.name))
    have h2:(if f.1=t.name then t.of f else [f]).length<=1:=by
      split
      · exact of_len t f
      simp
    rw [List.length_cons]
    have h3:(doneL t l (there || decide (t.what=0/\blt t.name f.1) || decide (f.1=t.name))).length<=l.length+1:=by
      split at h1<;>omega
    cases there
    · by_cases hb:t.what=0/\blt t.name f.1
      · have e:(false || decide (t.what=0/\blt t.name f.1) || decide (f.1=t.name))=true:=by simp [hb]
        rw [e] at h1 ⊢
        rw [if_pos ⟨rfl,hb⟩]
        simp only [List.length_cons,List.length_nil,Bool.false_eq_true,if_false,if_true] at h1 ⊢
        omega
      rw [if_neg (fun h=>hb h.2)]
      simp only [List.length_nil,Bool.false_eq_true,if_false]
      omega
    rw [if_neg (fun h=>by cases h.1)]
    have e:(true || decide (t.what=0/\blt t.name f.1) || decide (f.1=t.name))=true:=by simp
    rw [e] at h1 ⊢
    simp only [List.length_nil,if_true] at h1 ⊢
    omega
theorem done_len (l:Fs) (t:Thing):(done l t).length<=l.length+1:=doneL_len t l false
theorem fold_len:∀ (ts:List Thing) (l:Fs),(ts.foldl done l).length<=l.length+ts.length
  | [],l=>by simp
  | t :: ts,l=>by
    have h1:=fold_len ts (done l t)
    have h2:=done_len l t
    simp only [List.foldl_cons,List.length_cons]
    omega
def readNo (l:Fs) (name:ByteArray):Int:=if nameOk name=false then 130 else if akey l name=none then 5 else 0
def readB (l:Fs) (name:ByteArray):Bs:=if nameOk name then (akey l name).getD [] else []
theorem doNo_cut (d:Disk) (name:ByteArray) (xs:Bs) (n:Int):d.doNo ⟨1,name,xs,n⟩=if readNo d.files name≠0 then readNo d.files name else if n<0\/((readB d.files name).length:Int)<n then 4 else 0:=by
  unfold Disk.doNo readNo readB
  by_cases h1:nameOk name=false
  · rw [if_pos h1,if_pos h1];rfl
  have h2:nameOk name=true:=by simpa using h1
  rw [if_neg h1,if_neg h1,if_pos h2]
  by_cases h3:akey d.files name=none
  · rw [if_pos ⟨(show (1:Int)≠0 by decide),h3⟩,if_pos h3];rfl
  rw [if_neg (fun h=>h3 h.2),if_neg h3]
  simp
theorem doNo_remove (d:Disk) (name:ByteArray) (xs:Bs) (n:Int):d.doNo ⟨2,name,xs,n⟩=readNo d.files name:=by
  unfold Disk.doNo readNo
  by_cases h1:nameOk name=false
  · rw [if_pos h1,if_pos h1]
  rw [if_neg h1,if_neg h1]
  by_cases h3:akey d.files name=none
  · rw [if_pos ⟨(show (2:Int)≠0 by decide),h3⟩,if_pos h3]
  rw [if_neg (fun h=>h3 h.2),if_neg h3,if_neg (fun h=>by have:=h.1;simp at this),if_neg (fun h=>by have:=h.1;simp at this)]
theorem doneL_torn (t:Thing) (n:Nat) (h:t.what=0->t.bytes.length<=n):∀ (l:Fs) (b:Bool),doneL (tornT t n) l b=doneL t l b
  | [],b=>by
    rw [doneL,doneL]
    by_cases h0:t.what=0
    · simp only [tornT,h0,List.take_of_length_le (h h0)]
    rw [if_neg (fun e=>h0 e.2),if_neg (fun e=>h0 e.2)]
  | f :: l,b=>by
    have ih:=doneL_torn t n h l
    rw [doneL,doneL]
    by_cases h0:t.what=0
    · have e:tornT t n=t:=by simp only [tornT,List.take_of_length_le (h h0)]
      rw [e]
    have e1:(tornT t n).of f=t.of f:=by
      show (if t.what=0 then [(f.1,f.2++(t.bytes.take n))] else if t.what=1 then [(f.1,f.2.take t.n.toNat)] else if t.what=2 then [] else [f])=_
      unfold Thing.of
      rw [if_neg h0,if_neg h0]
    have hn:∀ u:Thing,u.what≠0->¬ (b=false/\u.what=0/\blt u.name f.1):=fun u hu e=>hu e.2.1
    rw [if_neg (hn (tornT t n) h0),if_neg (hn t h0),e1,ih]
    rfl
theorem done_torn (l:Fs) (t:Thing) (n:Nat) (h:t.what=0->t.bytes.length<=n):done l (tornT t n)=done l t:=doneL_torn t n h l false
theorem okT_torn {room:Int} {l:Fs} {t:Thing} {n:Nat} (h:okT room l t):okT room l (tornT t n):=by
  refine ⟨h.1,?_⟩
  rcases h.2 with ⟨e,h2⟩ | h2 | h2
  · refine .inl ⟨e,?_⟩
    have:(t.bytes.take n).length<=t.bytes.length:=by simp;omega
    show ((t.bytes.take n).length:Int)+usedB l<=room
    omega
  · exact .inr (.inl h2)
  exact .inr (.inr h2)
theorem Good.torn {room:Int}:∀ {l:Fs} {ts:List (Nat×Thing)},Good room l (ts.map (·.2))->(∀ p∈ts,p.2.what=0->p.2.bytes.length<=p.1)->Good room l (ts.map (fun p=>tornT p.2 p.1))/\(ts.map (fun p=>tornT p.2 p.1)).foldl done l=(ts.map (·.2)).foldl done l
  | _,[],h,_=>⟨h,rfl⟩
  | l,p :: ts,h,hp=>by
    have e:=done_torn l p.2 p.1 (hp p (List.mem_cons_self ..))
    obtain ⟨h1,h2⟩:=Good.torn (l:=done l p.2) (ts:=ts) h.2.2 (fun q hq=>hp q (List.mem_cons_of_mem _ hq))
    refine ⟨⟨h.1,okT_torn h.2.1,?_⟩,?_⟩
    · rw [e];exact h1
    simp only [List.map_cons,List.foldl_cons,e];exact h2
theorem Good.snoc' {room:Int} {l:Fs} {ts:List Thing} {t:Thing} (hr:Rise l) (h:Good room l ts) (h1:okT room (ts.foldl done l) t):Good room l (ts++[t]):=h.snoc h1 (h1.used (h.rise hr) h.fold)
theorem Alike.fold {room:Int}:∀ {K L:Fs} {ts:List Thing},Alike K L->Good room L ts->Alike (ts.foldl doneM K) (ts.foldl Dm.done L)
  | _,_,[],h,_=>h
  | K,L,t :: ts,h,hg=>Alike.fold (K:=doneM K t) (L:=Dm.done L t) (h.done hg.2.1.what hg.2.1.there) hg.2.2
end Go.Wst.Dm
