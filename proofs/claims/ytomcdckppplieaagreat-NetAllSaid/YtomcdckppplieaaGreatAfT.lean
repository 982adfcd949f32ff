/-
The functions' abstract texts, by their numbers.
-/
import Derived.Test.YtomcdckppplieaaGreatAf1
namespace Go.Eng.AF
open Go Go.Eng
def s12 : FT := (.node (.node (.node (.node .nil 7 f7 .nil) 8 f8 .nil) 9 f9 (.node (.node .nil 10 f10 .nil) 11 f11 .nil)) 12 f12 (.node (.node (.node .nil 13 f13 .nil) 14 f14 .nil) 15 f15 (.node .nil 16 f16 .nil)))
def s23 : FT := (.node (.node (.node (.node .nil 18 f18 .nil) 19 f19 .nil) 20 f20 (.node (.node .nil 21 f21 .nil) 22 f22 .nil)) 23 f23 (.node (.node (.node .nil 24 f24 .nil) 25 f25 .nil) 26 f26 (.node .nil 27 f27 .nil)))
def s34 : FT := (.node (.node (.node (.node .nil 29 f29 .nil) 30 f30 .nil) 31 f31 (.node (.node .nil 32 f32 .nil) 33 f33 .nil)) 34 f34 (.node (.node (.node .nil 35 f35 .nil) 36 f36 .nil) 37 f37 (.node .nil 38 f38 .nil)))
def s45 : FT := (.node (.node (.node (.node .nil 40 f40 .nil) 41 f41 .nil) 42 f42 (.node (.node .nil 43 f43 .nil) 44 f44 .nil)) 45 f45 (.node (.node (.node .nil 47 f47 .nil) 48 f48 .nil) 49 f49 (.node .nil 50 f50 .nil)))
def s57 : FT := (.node (.node (.node (.node .nil 52 f52 .nil) 53 f53 .nil) 54 f54 (.node (.node .nil 55 f55 .nil) 56 f56 .nil)) 57 f57 (.node (.node (.node .nil 58 f58 .nil) 59 f59 .nil) 60 f60 (.node .nil 61 f61 .nil)))
def s71 : FT := (.node (.node (.node (.node .nil 64 f64 .nil) 67 f67 .nil) 68 f68 (.node (.node .nil 69 f69 .nil) 70 f70 .nil)) 71 f71 (.node (.node (.node .nil 73 f73 .nil) 76 f76 .nil) 78 f78 (.node .nil 79 f79 .nil)))
def s86 : FT := (.node (.node (.node (.node .nil 81 f81 .nil) 82 f82 .nil) 83 f83 (.node (.node .nil 84 f84 .nil) 85 f85 .nil)) 86 f86 (.node (.node (.node .nil 87 f87 .nil) 89 f89 .nil) 90 f90 (.node .nil 91 f91 .nil)))
def s97 : FT := (.node (.node (.node (.node .nil 93 f93 .nil) 94 f94 .nil) 95 f95 (.node .nil 96 f96 .nil)) 97 f97 (.node (.node (.node .nil 98 f98 .nil) 99 f99 .nil) 100 f100 (.node .nil 101 f101 .nil)))
def s112 : FT := (.node (.node (.node (.node .nil 103 f103 .nil) 104 f104 .nil) 108 f108 (.node (.node .nil 109 f109 .nil) 111 f111 .nil)) 112 f112 (.node (.node (.node .nil 113 f113 .nil) 114 f114 .nil) 115 f115 (.node .nil 116 f116 .nil)))
def s123 : FT := (.node (.node (.node (.node .nil 118 f118 .nil) 119 f119 .nil) 120 f120 (.node (.node .nil 121 f121 .nil) 122 f122 .nil)) 123 f123 (.node (.node (.node .nil 124 f124 .nil) 125 f125 .nil) 126 f126 (.node .nil 127 f127 .nil)))
def s138 : FT := (.node (.node (.node (.node .nil 129 f129 .nil) 130 f130 .nil) 132 f132 (.node (.node .nil 133 f133 .nil) 134 f134 .nil)) 138 f138 (.node (.node (.node .nil 147 f147 .nil) 149 f149 .nil) 157 f157 (.node .nil 158 f158 .nil)))
def s165 : FT := (.node (.node (.node (.node .nil 160 f160 .nil) 161 f161 .nil) 162 f162 (.node .nil 164 f164 .nil)) 165 f165 (.node (.node (.node .nil 166 f166 .nil) 167 f167 .nil) 168 f168 (.node .nil 169 f169 .nil)))
def s177 : FT := (.node (.node (.node (.node .nil 171 f171 .nil) 172 f172 .nil) 173 f173 (.node (.node .nil 174 f174 .nil) 175 f175 .nil)) 177 f177 (.node (.node (.node .nil 178 f178 .nil) 179 f179 .nil) 182 f182 (.node .nil 192 f192 .nil)))
def s205 : FT := (.node (.node (.node (.node .nil 194 f194 .nil) 195 f195 .nil) 198 f198 (.node (.node .nil 203 f203 .nil) 204 f204 .nil)) 205 f205 (.node (.node (.node .nil 206 f206 .nil) 207 f207 .nil) 209 f209 (.node .nil 210 f210 .nil)))
def s226 : FT := (.node (.node (.node (.node .nil 212 f212 .nil) 213 f213 .nil) 216 f216 (.node (.node .nil 224 f224 .nil) 225 f225 .nil)) 226 f226 (.node (.node (.node .nil 227 f227 .nil) 228 f228 .nil) 229 f229 (.node .nil 230 f230 .nil)))
def s242 : FT := (.node (.node (.node (.node .nil 232 f232 .nil) 233 f233 .nil) 240 f240 (.node .nil 241 f241 .nil)) 242 f242 (.node (.node (.node .nil 243 f243 .nil) 244 f244 .nil) 245 f245 (.node .nil 263 f263 .nil)))
def fns : FT :=
  (.node (.node (.node (.node s12 17 f17 s23) 28 f28 (.node s34 39 f39 s45)) 51 f51 (.node (.node s57 62 f62 s71) 80 f80 (.node s86 92 f92 s97))) 102 f102 (.node (.node (.node s112 117 f117 s123) 128 f128 (.node s138 159 f159 s165)) 170 f170 (.node (.node s177 193 f193 s205) 211 f211 (.node s226 231 f231 s242))))
end Go.Eng.AF
